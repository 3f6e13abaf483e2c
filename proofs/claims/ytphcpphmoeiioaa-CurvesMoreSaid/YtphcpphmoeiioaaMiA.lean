/- The plain law of CurvesMirror; laws of boxes, of one of several operations, of a curve stored. -/
import Derived.Test.YtphcpphmoeiioaaWW
import Derived.Test.YtphcpphmoeiioaaFwA
import Derived.Test.YtphcpphmoeiioaaLnA
import Derived.Test.YtphcpphmoeiioaaHiP
import Derived.Test.YtphcpphmoeiioaaVR
import Derived.Test.YtphcpphmoeiioaaCpA
import Derived.Test.YtphcpphmoeiioaaGen
namespace Go.Proofs.Ytphcpphmoeiioaa
open Go.RowKit

def bkk (L : Int) (k : Kn) : Kn := ⟨L - k.pos, k.lo, k.hi⟩
def ngk (k : Kn) : Kn := ⟨k.pos, -k.hi, -k.lo⟩
theorem lean_F {L sl rl rh wg : Int} {ks : List Kn} (hc : chkV L sl rl rh wg ks = true) (hT : ¬ ∃ h, Truth (cvOf L sl rl rh wg ks) h) {p lo hi er : Int} (h : LeanR L sl rl rh wg ks p lo hi er) (h0 : 0 ≤ p) (h1 : p < L) : er = 3 ∧ lo = 0 ∧ hi = 0 := by
  obtain ⟨k1, _, k2⟩ := h
  have := openR_F k1 hc (btw_t' h0 (by omega)) hT
  exact ⟨this, k2 (by omega)⟩
theorem neg_truth_iff {c : Cv} : (∃ h, Truth (neg c) h) ↔ ∃ h, Truth c h := ⟨fun ⟨_, k⟩ => ⟨_, truth_gen k⟩, fun ⟨_, k⟩ => ⟨_, truth_neg k⟩⟩
theorem bck_truth_iff {c : Cv} : (∃ h, Truth (bck c) h) ↔ ∃ h, Truth c h := ⟨fun ⟨_, k⟩ => ⟨_, truth_kcb k⟩, fun ⟨_, k⟩ => ⟨_, truth_bck k⟩⟩
theorem btw_bk (L p : Int) : btw (L - p) 0 L = btw p 0 L := by
  rw [Bool.eq_iff_iff, btw_iff, btw_iff]; omega
theorem okS_ng (lo hi : Int) : okS (-hi) (-lo) = okS lo hi := by
  unfold okS
  rw [Bool.eq_iff_iff]
  simp only [Bool.and_eq_true, btw_iff, decide_eq_true_eq]
  omega
theorem chk_bk {L sl rl rh wg : Int} {ks : List Kn} : chkV L sl rl rh wg (ks.map (bkk L)) = chkV L sl rl rh wg ks := by
  unfold chkV
  rw [List.length_map, List.any_map]
  have : (badN L ∘ bkk L) = badN L := by
    funext k
    show (!btw (L - k.pos) 0 L || !okS k.lo k.hi) = _
    rw [btw_bk]; rfl
  rw [this]
theorem chk_ng {L sl rl rh wg : Int} {ks : List Kn} : chkV L sl (-rh) (-rl) wg (ks.map ngk) = chkV L sl rl rh wg ks := by
  unfold chkV
  rw [List.length_map, List.any_map, okS_ng]
  have : (badN L ∘ ngk) = badN L := by
    funext k
    show (!btw k.pos 0 L || !okS (-k.hi) (-k.lo)) = _
    rw [okS_ng]; rfl
  rw [this]
section
variable {L sl rl rh wg : Int} {ks : List Kn}
theorem cvOf_ng : cvOf L sl (-rh) (-rl) wg (ks.map ngk) = neg (cvOf L sl rl rh wg ks) := rfl
theorem cvOf_bk (h : 0 ≤ L) : cvOf L sl rl rh wg (ks.map (bkk L)) = bck (cvOf L sl rl rh wg ks) := by
  show Cv.mk _ _ _ _ _ _ = Cv.mk _ _ _ _ _ _
  congr 1
  refine List.map_congr_left fun q _ => ?_
  show Kn.mk (L - q.pos) q.lo q.hi = Kn.mk ((L.toNat : Int) - q.pos) q.lo q.hi
  rw [show (L.toNat : Int) = L by omega]
theorem ng_T (hT : ∃ h, Truth (cvOf L sl rl rh wg ks) h) : ∃ h, Truth (cvOf L sl (-rh) (-rl) wg (ks.map ngk)) h := neg_truth_iff.2 hT
theorem ng_F (hT : ¬ ∃ h, Truth (cvOf L sl rl rh wg ks) h) : ¬ ∃ h, Truth (cvOf L sl (-rh) (-rl) wg (ks.map ngk)) h := fun h => hT (neg_truth_iff.1 h)
theorem bk_T (h0 : 0 ≤ L) (hT : ∃ h, Truth (cvOf L sl rl rh wg ks) h) : ∃ h, Truth (cvOf L sl rl rh wg (ks.map (bkk L))) h := by rw [cvOf_bk h0]; exact bck_truth_iff.2 hT
theorem bk_F (h0 : 0 ≤ L) (hT : ¬ ∃ h, Truth (cvOf L sl rl rh wg ks) h) : ¬ ∃ h, Truth (cvOf L sl rl rh wg (ks.map (bkk L))) h := by rw [cvOf_bk h0]; exact fun h => hT (bck_truth_iff.1 h)
theorem ng_ht {p : Nat} {lo hi lo' hi' : Int} (h : IsSp (HtP (cvOf L sl rl rh wg ks) p) lo hi) (k : IsSp (HtP (cvOf L sl (-rh) (-rl) wg (ks.map ngk)) p) lo' hi') : lo' = -hi ∧ hi' = -lo := k.uniq (neg_ht h)
theorem ng_in {a b : Int} {lo hi lo' hi' : Int} (h : IsSp (InP (cvOf L sl rl rh wg ks) a b) lo hi) (k : IsSp (InP (cvOf L sl (-rh) (-rl) wg (ks.map ngk)) a b) lo' hi') : lo' = -hi ∧ hi' = -lo := k.uniq (neg_in h)
theorem ng_ln {p : Nat} {lo hi lo' hi' : Int} (h : IsSp (LnP (cvOf L sl rl rh wg ks) p) lo hi) (k : IsSp (LnP (cvOf L sl (-rh) (-rl) wg (ks.map ngk)) p) lo' hi') : lo' = -hi ∧ hi' = -lo := k.uniq (neg_ln h)
theorem bk_ht {p : Int} (h0 : 0 ≤ p) (h1 : p ≤ L) {lo hi lo' hi' : Int} (h : IsSp (HtP (cvOf L sl rl rh wg ks) p.toNat) lo hi) (k : IsSp (HtP (cvOf L sl rl rh wg (ks.map (bkk L))) (L - p).toNat) lo' hi') : lo' = lo ∧ hi' = hi := by
  rw [cvOf_bk (by omega)] at k
  have := bck_ht (c := cvOf L sl rl rh wg ks) (p := p.toNat) (by show p.toNat ≤ L.toNat; omega) h
  rw [show (cvOf L sl rl rh wg ks).long - p.toNat = (L - p).toNat by show L.toNat - p.toNat = _; omega] at this
  exact k.uniq this
theorem bk_in (h0 : 0 ≤ L) {a b : Int} {lo hi lo' hi' : Int} (h : IsSp (InP (cvOf L sl rl rh wg ks) a b) lo hi) (k : IsSp (InP (cvOf L sl rl rh wg (ks.map (bkk L))) (L - b) (L - a)) lo' hi') : lo' = lo ∧ hi' = hi := by
  rw [cvOf_bk h0] at k
  have := bck_in (c := cvOf L sl rl rh wg ks) h
  rw [show ((cvOf L sl rl rh wg ks).long : Int) = L by show (L.toNat : Int) = L; omega] at this
  exact k.uniq this
theorem bk_ln {p : Int} (h0 : 0 ≤ p) (h1 : p < L) {lo hi lo' hi' : Int} (h : IsSp (LnP (cvOf L sl rl rh wg ks) p.toNat) lo hi) (k : IsSp (LnP (cvOf L sl rl rh wg (ks.map (bkk L))) (L - 1 - p).toNat) lo' hi') : lo' = -hi ∧ hi' = -lo := by
  rw [cvOf_bk (by omega)] at k
  have := bck_ln (c := cvOf L sl rl rh wg ks) (p := p.toNat) (by show p.toNat < L.toNat; omega) h
  rw [show (cvOf L sl rl rh wg ks).long - 1 - p.toNat = (L - 1 - p).toNat by show L.toNat - 1 - p.toNat = _; omega] at this
  exact k.uniq this
theorem ng_few {n k er er' : Int} (hc : chkV L sl rl rh wg ks = true) (h : FewR L sl rl rh wg ks n er) (j : FewR L sl (-rh) (-rl) wg (ks.map ngk) k er') : er' = 0 ∧ k = n := by
  obtain ⟨h1, h2⟩ := fewR_few hc h
  obtain ⟨j1, j2⟩ := fewR_few (by rw [chk_ng]; exact hc) j
  exact ⟨j1, FewP.uniq j2 (neg_few h2)⟩
theorem bk_few {n k er er' : Int} (h0 : 0 ≤ L) (hc : chkV L sl rl rh wg ks = true) (h : FewR L sl rl rh wg ks n er) (j : FewR L sl rl rh wg (ks.map (bkk L)) k er') : er' = 0 ∧ k = n := by
  obtain ⟨h1, h2⟩ := fewR_few hc h
  obtain ⟨j1, j2⟩ := fewR_few (by rw [chk_bk]; exact hc) j
  rw [cvOf_bk h0] at j2
  exact ⟨j1, FewP.uniq j2 (bck_few h2)⟩
/-- What a call answers: 0 where there is a truth, else 3. -/
def TE (L sl rl rh wg : Int) (ks : List Kn) (E : Int) : Prop := (E = 0 ∧ ∃ h, Truth (cvOf L sl rl rh wg ks) h) ∨ (E = 3 ∧ ¬ ∃ h, Truth (cvOf L sl rl rh wg ks) h)
theorem te_ex (L sl rl rh wg : Int) (ks : List Kn) : ∃ E, TE L sl rl rh wg ks E := by
  by_cases h : ∃ h, Truth (cvOf L sl rl rh wg ks) h
  · exact ⟨0, Or.inl ⟨rfl, h⟩⟩
  · exact ⟨3, Or.inr ⟨rfl, h⟩⟩
variable {E : Int} (hc : chkV L sl rl rh wg ks = true) (hE : TE L sl rl rh wg ks E)
include hc hE
theorem mi_ht1 {p lo hi er : Int} (h0 : 0 ≤ p) (h1 : p ≤ L) (h : HeightR L sl rl rh wg ks p lo hi er) : er = E ∧ -100 ≤ lo ∧ lo ≤ hi ∧ hi ≤ 100 := by
  rcases hE with ⟨rfl, hT⟩ | ⟨rfl, hT⟩
  · obtain ⟨a, _, b⟩ := ht_T hc hT h h0 h1; exact ⟨a, b⟩
  · obtain ⟨rfl, rfl, rfl⟩ := ht_F hc hT h h0 h1; omega
theorem mi_ht2 {p lo hi er lo' hi' er' : Int} (h0 : 0 ≤ p) (h1 : p ≤ L) (h : HeightR L sl rl rh wg ks p lo hi er) (k : HeightR L sl rl rh wg (ks.map (bkk L)) (L - p) lo' hi' er') : er' = E ∧ lo' = lo ∧ hi' = hi := by
  have hL : 0 ≤ L := by omega
  rcases hE with ⟨rfl, hT⟩ | ⟨rfl, hT⟩
  · obtain ⟨_, a, _⟩ := ht_T hc hT h h0 h1
    obtain ⟨e, b, _⟩ := ht_T (by rw [chk_bk]; exact hc) (bk_T hL hT) k (by omega) (by omega)
    exact ⟨e, bk_ht h0 h1 a b⟩
  · obtain ⟨_, rfl, rfl⟩ := ht_F hc hT h h0 h1
    exact ht_F (by rw [chk_bk]; exact hc) (bk_F hL hT) k (by omega) (by omega)
theorem mi_ht3 {p lo hi er lo' hi' er' : Int} (h0 : 0 ≤ p) (h1 : p ≤ L) (h : HeightR L sl rl rh wg ks p lo hi er) (k : HeightR L sl (-rh) (-rl) wg (ks.map ngk) p lo' hi' er') : er' = E ∧ lo' = -hi ∧ hi' = -lo := by
  rcases hE with ⟨rfl, hT⟩ | ⟨rfl, hT⟩
  · obtain ⟨_, a, _⟩ := ht_T hc hT h h0 h1
    obtain ⟨e, b, _⟩ := ht_T (by rw [chk_ng]; exact hc) (ng_T hT) k h0 h1
    exact ⟨e, ng_ht a b⟩
  · obtain ⟨_, rfl, rfl⟩ := ht_F hc hT h h0 h1
    obtain ⟨e, rfl, rfl⟩ := ht_F (by rw [chk_ng]; exact hc) (ng_F hT) k h0 h1
    exact ⟨e, rfl, rfl⟩
theorem mi_in1 {a b lo hi er : Int} (h0 : 0 ≤ a) (h1 : a ≤ b) (h2 : b ≤ L) (h : IntegralR L sl rl rh wg ks a b lo hi er) : er = E ∧ -2400 ≤ lo ∧ lo ≤ hi ∧ hi ≤ 2400 := by
  rcases hE with ⟨rfl, hT⟩ | ⟨rfl, hT⟩
  · obtain ⟨a, _, b⟩ := int_T hc hT h h0 h1 h2; exact ⟨a, b⟩
  · obtain ⟨rfl, rfl, rfl⟩ := int_F hc hT h h0 h1 h2; omega
theorem mi_in2 {a b lo hi er lo' hi' er' : Int} (h0 : 0 ≤ a) (h1 : a ≤ b) (h2 : b ≤ L) (h : IntegralR L sl rl rh wg ks a b lo hi er) (k : IntegralR L sl rl rh wg (ks.map (bkk L)) (L - b) (L - a) lo' hi' er') : er' = E ∧ lo' = lo ∧ hi' = hi := by
  have hL : 0 ≤ L := by omega
  rcases hE with ⟨rfl, hT⟩ | ⟨rfl, hT⟩
  · obtain ⟨_, a, _⟩ := int_T hc hT h h0 h1 h2
    obtain ⟨e, b, _⟩ := int_T (by rw [chk_bk]; exact hc) (bk_T hL hT) k (by omega) (by omega) (by omega)
    exact ⟨e, bk_in hL a b⟩
  · obtain ⟨_, rfl, rfl⟩ := int_F hc hT h h0 h1 h2
    exact int_F (by rw [chk_bk]; exact hc) (bk_F hL hT) k (by omega) (by omega) (by omega)
theorem mi_in3 {a b lo hi er lo' hi' er' : Int} (h0 : 0 ≤ a) (h1 : a ≤ b) (h2 : b ≤ L) (h : IntegralR L sl rl rh wg ks a b lo hi er) (k : IntegralR L sl (-rh) (-rl) wg (ks.map ngk) a b lo' hi' er') : er' = E ∧ lo' = -hi ∧ hi' = -lo := by
  rcases hE with ⟨rfl, hT⟩ | ⟨rfl, hT⟩
  · obtain ⟨_, a, _⟩ := int_T hc hT h h0 h1 h2
    obtain ⟨e, b, _⟩ := int_T (by rw [chk_ng]; exact hc) (ng_T hT) k h0 h1 h2
    exact ⟨e, ng_in a b⟩
  · obtain ⟨_, rfl, rfl⟩ := int_F hc hT h h0 h1 h2
    obtain ⟨e, rfl, rfl⟩ := int_F (by rw [chk_ng]; exact hc) (ng_F hT) k h0 h1 h2
    exact ⟨e, rfl, rfl⟩
theorem mi_ln1 {p lo hi er : Int} (h0 : 0 ≤ p) (h1 : p < L) (h : LeanR L sl rl rh wg ks p lo hi er) : er = E ∧ -20 ≤ lo ∧ lo ≤ 20 ∧ -20 ≤ hi ∧ hi ≤ 20 := by
  rcases hE with ⟨rfl, hT⟩ | ⟨rfl, hT⟩
  · obtain ⟨e, a⟩ := lean_T hc hT h h0 h1
    have hV := cvV_of hc
    have key : ∀ s, LnP (cvOf L sl rl rh wg ks) p.toNat s → -20 ≤ s ∧ s ≤ 20 := fun s ⟨g, k1, k2⟩ => by
      have k3 : g p.toNat - sl ≤ g (p.toNat + 1) ∧ g (p.toNat + 1) ≤ g p.toNat + sl := k1.1.2 p.toNat (by show p.toNat < L.toNat; omega)
      have := hV.s2
      omega
    have k1 := key _ a.1
    have k2 := key _ a.2.1
    exact ⟨e, by omega⟩
  · obtain ⟨rfl, rfl, rfl⟩ := lean_F hc hT h h0 h1; omega
theorem mi_ln2 {p lo hi er lo' hi' er' : Int} (h0 : 0 ≤ p) (h1 : p < L) (h : LeanR L sl rl rh wg ks p lo hi er) (k : LeanR L sl rl rh wg (ks.map (bkk L)) (L - 1 - p) lo' hi' er') : er' = E ∧ lo' = -hi ∧ hi' = -lo := by
  have hL : 0 ≤ L := by omega
  rcases hE with ⟨rfl, hT⟩ | ⟨rfl, hT⟩
  · obtain ⟨_, a⟩ := lean_T hc hT h h0 h1
    obtain ⟨e, b⟩ := lean_T (by rw [chk_bk]; exact hc) (bk_T hL hT) k (by omega) (by omega)
    exact ⟨e, bk_ln h0 h1 a b⟩
  · obtain ⟨_, rfl, rfl⟩ := lean_F hc hT h h0 h1
    obtain ⟨e, rfl, rfl⟩ := lean_F (by rw [chk_bk]; exact hc) (bk_F hL hT) k (by omega) (by omega)
    exact ⟨e, rfl, rfl⟩
theorem mi_ln3 {p lo hi er lo' hi' er' : Int} (h0 : 0 ≤ p) (h1 : p < L) (h : LeanR L sl rl rh wg ks p lo hi er) (k : LeanR L sl (-rh) (-rl) wg (ks.map ngk) p lo' hi' er') : er' = E ∧ lo' = -hi ∧ hi' = -lo := by
  rcases hE with ⟨rfl, hT⟩ | ⟨rfl, hT⟩
  · obtain ⟨_, a⟩ := lean_T hc hT h h0 h1
    obtain ⟨e, b⟩ := lean_T (by rw [chk_ng]; exact hc) (ng_T hT) k h0 h1
    exact ⟨e, ng_ln a b⟩
  · obtain ⟨_, rfl, rfl⟩ := lean_F hc hT h h0 h1
    obtain ⟨e, rfl, rfl⟩ := lean_F (by rw [chk_ng]; exact hc) (ng_F hT) k h0 h1
    exact ⟨e, rfl, rfl⟩
omit hc in
theorem te_kn : knB E = true ∧ (E = 0 ∨ E = 3) := by
  rcases hE with ⟨rfl, _⟩ | ⟨rfl, _⟩
  · exact ⟨rfl, Or.inl rfl⟩
  · exact ⟨rfl, Or.inr rfl⟩
end
end Go.Proofs.Ytphcpphmoeiioaa
namespace Go.Proofs.Ytphcpphmoeiioaa
open Go.RowKit

section
variable {P : Program} {Q : Exit → Act → World → Prop} {S : World → Prop} {l : List Oper}
/-- One of several. -/
theorem rg_many {fuel fuel' : Nat} {listed : Array Bool} {a : Act} {w : World} (cs : List Nat) (hf : fuel' = fuel + 1) (hne : cs ≠ []) (h2 : belowB l.length cs = true) (h4 : Region.ready .any l.toArray listed = cs)
    (h : ∀ c ∈ cs, ∀ K' : Act → World → Prop, Shut (∀ a2 w2, S w2 → RG P l Q S fuel (listed.setIfInBounds c true) a2 w2 → K' a2 w2) → wpHead P l.toArray Q K' a w (pick1 l c)) : RG P l Q S fuel' listed a w := by
  subst hf
  refine wpAnyH_all h4 hne ?_
  intro i hi
  obtain ⟨oc, hp, hc⟩ := pick1_lt l i (by simpa using List.all_eq_true.1 h2 i hi)
  have h' := h i hi
  rw [hp] at h'
  exact wpOp_step (o := oc) (by simpa using hc) (fun K' hK => h' K' fun a2 w2 hS hR => hK a2 w2 ⟨hS, hR⟩)
end
/-- Block b is one's own, of type t, and holds just these cells. -/
def OwnT (w : World) (b : Nat) (t : TypeId) (vs : List Value) : Prop := w.heap[b]? = some (.cells vs.toArray t (0, 0))
theorem OwnT.lt {w : World} {b : Nat} {t : TypeId} {vs : List Value} (h : OwnT w b t vs) : b < w.heap.size := (Array.getElem?_eq_some_iff.1 h).1
theorem OwnT.own {w : World} {b : Nat} {t : TypeId} {vs : List Value} (h : OwnT w b t vs) : Own w b vs :=
  ⟨h.lt, fun i => by simp [World.cell?, show w.heap[b]? = _ from h], fun i => by simp [World.frozen?, show w.heap[b]? = _ from h]⟩
theorem OwnT.below {w w' : World} {b B : Nat} {t : TypeId} {vs : List Value} (h : OwnT w b t vs) (k : Below B w w') (hb : b < B) : OwnT w' b t vs := (k.block b hb).trans h
theorem OwnT.new (w : World) (c : Array Value) (t : TypeId) : OwnT (w.alloc (.cells c t)) w.heap.size t c.toList := by
  unfold OwnT
  rw [Array.toArray_toList]
  exact (MapKept.heap_alloc w _).1
theorem OwnT.apart {w : World} {b base e sz : Nat} {t : TypeId} {vs : List Value} {v : Value} {rows : List (List Value)} (h : OwnT w b t vs) (k : Gro w base e sz v rows) (hne : e ≠ t) : v.ownBlock ≠ some b := by
  rcases k.2.2 with ⟨rfl, _⟩ | ⟨g1, cap1, cur1, rfl, _, h1, _⟩
  · simp [Value.ownBlock]
  · simp only [Value.ownBlock]
    intro e
    cases e
    rw [show w.heap[b]? = _ from h] at h1
    cases h1
    exact hne rfl
theorem OwnT.set {w : World} {b : Nat} {t : TypeId} {vs : List Value} (h : OwnT w b t vs) (j : Nat) (u : Value) : OwnT (w.setCell ⟨b, j, none⟩ u) b t (vs.set j u) := by
  have := heap_setCell_cells h j u
  unfold OwnT
  rw [this, List.setIfInBounds_toArray]
theorem OwnT.setOther {w : World} {b g : Nat} {t : TypeId} {vs : List Value} (h : OwnT w b t vs) (hne : b ≠ g) (j : Nat) (u : Value) : OwnT (w.setCell ⟨g, j, none⟩ u) b t vs := by
  unfold OwnT
  rw [Below.heap_setCell _ _ _ _ hne]; exact h
theorem Gro.keptBy {w w' : World} {base e sz : Nat} {v : Value} {rows : List (List Value)} {row : Option Nat} (h : Gro w base e sz v rows) (hg : w.grownBy w' row) (hne : v.ownBlock = none ∨ v.ownBlock ≠ row) : Gro w' base e sz v rows := ⟨h.1, h.2.kept hg hne⟩
theorem OwnT.keptBy {w w' : World} {b : Nat} {t : TypeId} {vs : List Value} {row : Option Nat} (h : OwnT w b t vs) (hg : w.grownBy w' row) (hne : some b ≠ row) : OwnT w' b t vs := (hg.block b h.lt hne).trans h
theorem Own.keptBy {w w' : World} {b : Nat} {vs : List Value} {row : Option Nat} (h : Own w b vs) (hg : w.grownBy w' row) (hne : some b ≠ row) : Own w' b vs :=
  ⟨Nat.lt_of_lt_of_le h.lt hg.size, fun i => (World.cell?_of_block (hg.block b h.lt hne)).trans (h.c i), fun i => (World.frozen?_of_block (hg.block b h.lt hne)).trans (h.f i)⟩
theorem Gro.apart2 {w : World} {base e sz base' e' sz' : Nat} {v v' : Value} {rows rows' : List (List Value)} (h : Gro w base e sz v rows) (k : Gro w base' e' sz' v' rows') (hne : e ≠ e') : v.ownBlock = none ∨ v.ownBlock ≠ v'.ownBlock := by
  rcases h.2.2 with ⟨rfl, _⟩ | ⟨g1, cap1, cur1, rfl, _, h1, _⟩
  · exact Or.inl rfl
  · right
    rcases k.2.2 with ⟨rfl, _⟩ | ⟨g2, cap2, cur2, rfl, _, h2, _⟩
    · simp [Value.ownBlock]
    · simp only [Value.ownBlock]
      intro e
      cases e
      rw [h1] at h2
      cases h2
      exact hne rfl
theorem Gro.above {w : World} {base e sz base' : Nat} {v v' : Value} {rows : List (List Value)} (h : Gro w base e sz v rows) (k : ∀ g, v'.ownBlock = Option.some g → base' ≤ g ∧ g < base) : v.ownBlock = none ∨ v.ownBlock ≠ v'.ownBlock := by
  cases hv : v.ownBlock with
  | none => exact Or.inl rfl
  | some g =>
    right
    intro e
    have h1 := (h.2.lt g hv).1
    have h2 := (k g e.symm).2
    omega
/-- A curve is stored. -/
abbrev put6 (w : World) (g : Nat) (x0 x1 x2 x3 x4 x5 : Value) : World := (((((w.setCell ⟨g, 0, none⟩ x0).setCell ⟨g, 1, none⟩ x1).setCell ⟨g, 2, none⟩ x2).setCell ⟨g, 3, none⟩ x3).setCell ⟨g, 4, none⟩ x4).setCell ⟨g, 5, none⟩ x5
section
variable {w : World} {g : Nat} {x0 x1 x2 x3 x4 x5 : Value}
theorem put6_own {t : TypeId} {a0 a1 a2 a3 a4 a5 : Value} (h : OwnT w g t [a0, a1, a2, a3, a4, a5]) : OwnT (put6 w g x0 x1 x2 x3 x4 x5) g t [x0, x1, x2, x3, x4, x5] := (((((h.set 0 x0).set 1 x1).set 2 x2).set 3 x3).set 4 x4).set 5 x5
theorem put6_ownT {b : Nat} {t : TypeId} {vs : List Value} (h : OwnT w b t vs) (hne : b ≠ g) : OwnT (put6 w g x0 x1 x2 x3 x4 x5) b t vs := (((((h.setOther hne 0 x0).setOther hne 1 x1).setOther hne 2 x2).setOther hne 3 x3).setOther hne 4 x4).setOther hne 5 x5
theorem put6_other {b : Nat} {vs : List Value} (h : Own w b vs) (hne : g ≠ b) : Own (put6 w g x0 x1 x2 x3 x4 x5) b vs := (((((h.setOther hne x0).setOther hne x1).setOther hne x2).setOther hne x3).setOther hne x4).setOther hne x5
theorem put6_gro {base e sz : Nat} {v : Value} {rows : List (List Value)} (h : Gro w base e sz v rows) (hne : v.ownBlock ≠ some g) : Gro (put6 w g x0 x1 x2 x3 x4 x5) base e sz v rows := (((((h.setRow hne x0).setRow hne x1).setRow hne x2).setRow hne x3).setRow hne x4).setRow hne x5
theorem put6_below {B : Nat} {w0 : World} (h : Below B w0 w) (hg : B ≤ g) : Below B w0 (put6 w g x0 x1 x2 x3 x4 x5) := Below.setCell (Below.setCell (Below.setCell (Below.setCell (Below.setCell (Below.setCell h hg x0) hg x1) hg x2) hg x3) hg x4) hg x5
end
theorem wp_nor {P : Program} {c : Code} {Q : Exit → Act → World → Prop} {a : Act} {w : World} (h : c.wp P (fun e a w => e = .normal ∧ Q e a w) a w) : c.wp P Q a w := Code.wp_mono (fun _ _ _ k => k.2) h
/-- The first k knots of a row are changed already. -/
def upRows (f : Kn → Kn) (ks : List Kn) (k : Nat) : List (List Value) := ((ks.take k).map f ++ ks.drop k).map krow
theorem upRows_zero (f : Kn → Kn) (ks : List Kn) : upRows f ks 0 = ks.map krow := by simp [upRows]
theorem upRows_all (f : Kn → Kn) (ks : List Kn) : upRows f ks ks.length = (ks.map f).map krow := by simp [upRows]
theorem upRows_len (f : Kn → Kn) (ks : List Kn) (k : Nat) : (upRows f ks k).length = ks.length := by simp [upRows]; omega
theorem upRows_at {f : Kn → Kn} {ks : List Kn} {k : Nat} {q : Kn} (h : ks[k]? = some q) : (upRows f ks k)[k]? = some (krow q) := by
  obtain ⟨hlt, _⟩ := List.getElem?_eq_some_iff.1 h
  have : (List.map f (ks.take k) ++ ks.drop k)[k]? = some q := by
    rw [List.getElem?_append_right (by simp; omega)]
    simp [h, Nat.min_eq_left (Nat.le_of_lt hlt)]
  unfold upRows
  rw [List.getElem?_map, this]; rfl
theorem upRows_set {f : Kn → Kn} {ks : List Kn} {k : Nat} {q : Kn} (h : ks[k]? = some q) : (upRows f ks k).set k (krow (f q)) = upRows f ks (k + 1) := by
  obtain ⟨hlt, e⟩ := List.getElem?_eq_some_iff.1 h
  unfold upRows
  rw [take_snoc h, List.drop_eq_getElem_cons hlt, e, List.map_append, List.set_append_right _ _ (by simp; omega)]
  have : k - ((ks.take k).map f |>.map krow).length = 0 := by simp; omega
  rw [this]
  simp
/-- A knot's heights are written. -/
theorem gro_hts {W : World} {base g n cap k : Nat} {f : Kn → Kn} {ks : List Kn} {q : Kn} {x y : Int} (h : Gro W base 51 3 (.slice (some ⟨g, 0, none⟩) n cap) (upRows f ks k)) (hq : ks[k]? = some q) (hf : f q = ⟨q.pos, x, y⟩) :
    Gro ((W.setCell ⟨g, k * 3 + 1, none⟩ (.int .i64 x)).setCell ⟨g, k * 3 + 1 + 1, none⟩ (.int .i64 y)) base 51 3 (.slice (some ⟨g, 0, none⟩) n cap) (upRows f ks (k + 1)) := by
  have hlt := (List.getElem?_eq_some_iff.1 hq).1
  have h1 := Gro.set h (upRows_at hq) (c := 1) (by omega) (.int .i64 x)
  have h2 := Gro.set h1 (i := k) (c := 2) (r := (krow q).set 1 (.int .i64 x)) (by rw [List.getElem?_set_self (by rw [upRows_len]; exact hlt)]) (by omega) (.int .i64 y)
  rw [List.set_set] at h2
  have e : upRows f ks (k + 1) = (upRows f ks k).set k (((krow q).set 1 (.int .i64 x)).set 2 (.int .i64 y)) := by rw [← upRows_set hq, hf]; rfl
  rw [e]
  exact h2
/-- A knot's place is written. -/
theorem gro_pos {W : World} {base g n cap k : Nat} {f : Kn → Kn} {ks : List Kn} {q : Kn} {x : Int} (h : Gro W base 51 3 (.slice (some ⟨g, 0, none⟩) n cap) (upRows f ks k)) (hq : ks[k]? = some q) (hf : f q = ⟨x, q.lo, q.hi⟩) :
    Gro (W.setCell ⟨g, k * 3, none⟩ (.int .i64 x)) base 51 3 (.slice (some ⟨g, 0, none⟩) n cap) (upRows f ks (k + 1)) := by
  have h1 := Gro.set h (upRows_at hq) (c := 0) (by omega) (.int .i64 x)
  have e : upRows f ks (k + 1) = (upRows f ks k).set k ((krow q).set 0 (.int .i64 x)) := by rw [← upRows_set hq, hf]; rfl
  rw [e]
  exact h1
theorem ownsRow_lt {w : World} {base e sz : Nat} {v : Value} {rows : List (List Value)} (h : Gro w base e sz v rows) : ∀ k, v.ownBlock = Option.some k → base ≤ k ∧ k < w.heap.size := by
  rcases h.2.2 with ⟨rfl, _⟩ | ⟨g1, cap1, cur1, rfl, h0, h1, _⟩
  · intro k e; simp [Value.ownBlock] at e
  · intro k e
    simp only [Value.ownBlock, Option.some.injEq] at e
    subst e
    exact ⟨h0, (Array.getElem?_eq_some_iff.1 h1).1⟩
end Go.Proofs.Ytphcpphmoeiioaa
