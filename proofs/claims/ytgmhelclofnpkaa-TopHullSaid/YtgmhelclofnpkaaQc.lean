/- Walks: the reference's test of a polygon. -/
import Derived.Test.YtgmhelclofnpkaaQb
import Derived.Test.YtgmhelclofnpkaaGen
import Derived.Deep.CutRange
import Derived.Deep.CutBlock
import Derived.Deep.LoopGhost
import Derived.Deep.DeepCutAuto
import Derived.Outline
namespace Go.Proofs.Ytgmhelclofnpkaa
open Go.RowKit

theorem eql_p2 (g g' : P2) (w : World) :
    (binOp .eql 53 (.agg #[.int .i64 g.1, .int .i64 g.2]) (.agg #[.int .i64 g'.1, .int .i64 g'.2])).run Try.prog w = .ok (.bool (decide (g = g'))) w := by
  obtain ⟨a, b⟩ := g
  obtain ⟨c, d⟩ := g'
  by_cases h1 : a = c
  · subst h1
    by_cases h2 : b = d
    · subst h2; simp [go_sem]
    · simp [go_sem, h2]
  · simp [go_sem, h1]
section
variable {P : Program} {Q : Exit → Act → World → Prop} {S : World → Prop} {l : List Oper}
theorem rg_manyC {fuel fuel' : Nat} {listed : Array Bool} {a : Act} {w : World} (cs : List Nat) (hf : fuel' = fuel + 1) (hne : cs ≠ []) (h2 : belowB l.length cs = true) (h4 : Region.ready .any l.toArray listed = cs)
    (h : ∀ c ∈ cs, ∀ K' : Act → World → Prop, Shut (∀ a2 w2, S w2 → RG P l Q S fuel (listed.setIfInBounds c true) a2 w2 → K' a2 w2) → wpHead P l.toArray Q K' a w (pick1 l c)) : RG P l Q S fuel' listed a w := by
  subst hf
  refine wpAnyH_all h4 hne ?_
  intro i hi
  obtain ⟨oc, hp, hc⟩ := pick1_lt l i (by simpa using List.all_eq_true.1 h2 i hi)
  have h' := h i hi
  rw [hp] at h'
  exact wpOp_step (o := oc) (by simpa using hc) (fun K' hK => h' K' fun a2 w2 hS hR => hK a2 w2 ⟨hS, hR⟩)
end
/-- Two corners as the memory has them. -/
structure PtS (b off f t : Nat) (x1 y1 x2 y2 : Int) (w : World) : Prop where
  l : b < w.heap.size
  ca : w.cell? ⟨b, off + f * 2, none⟩ = some (.int .i64 x1)
  cb : w.cell? ⟨b, off + f * 2 + 1, none⟩ = some (.int .i64 y1)
  cc : w.cell? ⟨b, off + t * 2, none⟩ = some (.int .i64 x2)
  cd : w.cell? ⟨b, off + t * 2 + 1, none⟩ = some (.int .i64 y2)
theorem PtS.below {b off f t : Nat} {x1 y1 x2 y2 : Int} {w w' : World} (h : PtS b off f t x1 y1 x2 y2 w) (hb : Below w.heap.size w w') : PtS b off f t x1 y1 x2 y2 w' :=
  ⟨Nat.lt_of_lt_of_le h.l hb.size, (hb.cell (p := ⟨b, _, none⟩) h.l).trans h.ca, (hb.cell (p := ⟨b, _, none⟩) h.l).trans h.cb, (hb.cell (p := ⟨b, _, none⟩) h.l).trans h.cc, (hb.cell (p := ⟨b, _, none⟩) h.l).trans h.cd⟩
theorem PtS.set {b off f t : Nat} {x1 y1 x2 y2 : Int} {w : World} (h : PtS b off f t x1 y1 x2 y2 w) {a : Addr} (k3 : b < a.block) (v : Value) : PtS b off f t x1 y1 x2 y2 (w.setCell a v) :=
  have hb : Below (b + 1) w (w.setCell a v) := (Below.refl _ _).setCell (by omega) _
  ⟨by simpa using h.l, (hb.cell (p := ⟨b, _, none⟩) (Nat.lt_succ_self _)).trans h.ca, (hb.cell (p := ⟨b, _, none⟩) (Nat.lt_succ_self _)).trans h.cb, (hb.cell (p := ⟨b, _, none⟩) (Nat.lt_succ_self _)).trans h.cc, (hb.cell (p := ⟨b, _, none⟩) (Nat.lt_succ_self _)).trans h.cd⟩
theorem PtS.set2 {b off f t : Nat} {x1 y1 x2 y2 : Int} {w : World} (h : PtS b off f t x1 y1 x2 y2 w) {Z : Nat} (k3 : b < Z) (v u : Value) : PtS b off f t x1 y1 x2 y2 ((w.setCell ⟨Z, 0, none⟩ v).setCell ⟨Z, 1, none⟩ u) := (h.set (by exact k3) v).set (by exact k3) u
theorem own_set2p {w : World} {b : Nat} {a0 a1 : Value} (h : Own w b [a0, a1]) (x0 x1 : Value) : Own ((w.setCell ⟨b, 0, none⟩ x0).setCell ⟨b, 1, none⟩ x1) b [x0, x1] := (h.set 0 (by simp) x0).set 1 (by simp) x1
namespace Pl
/-- The first corners are points, none there twice. -/
def I1 (ps : List P2) (k : Nat) : Prop := (ps.take k).all isP = true ∧ ∀ j, j < k → (ps.take j).contains (at' ps j) = false
theorem I1_snoc {ps : List P2} {k : Nat} {g : P2} (h : I1 ps k) (hg : ps[k]? = some g) (hp : isP g = true) (hn : g ∉ ps.take k) : I1 ps (k + 1) := by
  refine ⟨by rw [take_snoc hg, List.all_append, h.1]; simp [hp], fun j hj => ?_⟩
  by_cases e : j = k
  · subst e
    rw [show at' ps j = g by unfold at'; rw [List.getD_eq_getElem?_getD, hg]; rfl]
    simpa using hn
  · exact h.2 j (by omega)
theorem I1_all {ps : List P2} (h : I1 ps ps.length) : ps.all isP = true ∧ dup ps = false := by
  refine ⟨by have := h.1; rwa [List.take_length] at this, ?_⟩
  unfold dup
  rw [List.any_eq_false]
  intro j hj
  rw [h.2 j (List.mem_range.1 hj)]; simp
/-- The first sides meet no others. -/
def I2 (ps : List P2) (k : Nat) : Prop := ∀ i, i < k → ∀ j, j < ps.length → bad ps i j = false
theorem ok_of {ps : List P2} (hl : btw ps.length 3 10 = true) (h1 : I1 ps ps.length) (h2 : I2 ps ps.length) : ok ps = true := by
  obtain ⟨ha, hd⟩ := I1_all h1
  unfold ok
  rw [hl, ha, hd, simple_iff.2 (fun i k hi hk => h2 i hi k hk)]; rfl
theorem at_of {ps : List P2} {k : Nat} {g : P2} (h : ps[k]? = some g) : at' ps k = g := by unfold at'; rw [List.getD_eq_getElem?_getD, h]; rfl
theorem bad_self (ps : List P2) (k : Nat) : bad ps k k = false := by simp [bad]
theorem bad_next {ps : List P2} {n k j : Nat} (hn : n = ps.length) (e1 : ¬ j = k) (e2 : j = nxI n k) : bad ps k j = (has (at' ps k) (at' ps j) (at' ps (nxI n j)) || has (at' ps j) (at' ps (nxI n j)) (at' ps k)) := by
  subst hn
  unfold nxI at *
  unfold bad
  rw [if_neg (fun e => e1 e.symm), if_pos e2]
  unfold nx
  rw [← e2]
theorem bad_prev {ps : List P2} {n k j : Nat} (hn : n = ps.length) (e1 : ¬ j = k) (e2 : ¬ j = nxI n k) (e3 : nxI n j = k) : bad ps k j = false := by
  subst hn
  unfold nxI at *
  unfold bad
  rw [if_neg (fun e => e1 e.symm), if_neg e2, if_pos e3.symm]
theorem bad_far {ps : List P2} {n k j : Nat} (hn : n = ps.length) (e1 : ¬ j = k) (e2 : ¬ j = nxI n k) (e3 : ¬ nxI n j = k) : bad ps k j = meets (at' ps k) (at' ps (nxI n k)) (at' ps j) (at' ps (nxI n j)) := by
  subst hn
  unfold nxI at *
  unfold bad
  rw [if_neg (fun e => e1 e.symm), if_neg e2, if_neg (fun e => e3 e.symm)]
  rfl
end Pl
namespace Pl
theorem no_len {ps : List P2} {n : Nat} (hn : n = ps.length) (h : btw n 3 10 = false) : ok ps = false := by
  unfold ok; rw [← hn, h]; rfl
theorem no_pt {ps : List P2} {k : Nat} {g : P2} (hg : ps[k]? = some g) (hs : isP g = false) : ok ps = false := by
  have : ps.all isP = false := by
    cases e : ps.all isP
    · rfl
    · rw [List.all_eq_true.1 e g (List.mem_of_getElem? hg)] at hs; cases hs
  unfold ok; rw [this]; simp
theorem no_two {ps : List P2} {k m : Nat} {g : P2} (hg : ps[k]? = some g) (hm : ps[m]? = some g) (h : m < k) : ok ps = false := by
  have hk := (List.getElem?_eq_some_iff.1 hg).1
  have : dup ps = true := by
    unfold dup
    rw [List.any_eq_true]
    refine ⟨k, List.mem_range.2 hk, ?_⟩
    rw [List.contains_iff_mem, at_of hg]
    exact List.mem_of_getElem? (by rw [List.getElem?_take_of_lt h]; exact hm)
  unfold ok; rw [this]; simp
theorem no_bad {ps : List P2} {i k : Nat} (hi : i < ps.length) (hk : k < ps.length) (h : bad ps i k = true) : ok ps = false := by
  unfold ok; rw [simple_no hi hk h]; simp
/-- What the reference's test returns. -/
def rcv (ps : List P2) : Int := if ok ps = true then 0 else 20
theorem val20 {ps : List P2} (h : ok ps = false) : Hid ((20 : Int) = rcv ps) := by
  show _ = _
  unfold rcv
  rw [h]; rfl
theorem val0 {ps : List P2} (h : ok ps = true) : Hid ((0 : Int) = rcv ps) := by
  show _ = _
  unfold rcv
  rw [h]; rfl
theorem rcv_0 {ps : List P2} : rcv ps = 0 ↔ ok ps = true := by
  unfold rcv
  cases ok ps <;> simp
end Pl
set_option maxRecDepth 100000 in
set_option maxHeartbeats 4000000 in
theorem rCheckV (A : Option Addr) (ps : List P2) (n cap : Nat) (w : World) (hA : Rd 2 w A (ps.map ptrow)) (hn : Hid (n = ps.length)) (hlen : n ≤ 9223372036854775807) :
    Calls Try.prog 8 #[.slice A n cap] w fun e w' => ∃ v : Int, e = .returned (.int .i64 v) ∧ Hid (v = Pl.rcv ps) ∧ Below w.heap.size w w' := by
  have HA := Lib.hid hA
  clear hA
  cases h1 : btw n 3 10
  · have H1 := Lib.hid h1
    clear h1
    go_enter Try.func8, Try.ntmps8
    go_wp2_with fail
    refine (rwithinW _ _ _ _).mono ?_
    rw [H1.out]
    rintro e w1 ⟨rfl, rfl⟩
    go_wp2
    go_ret
    exact ⟨_, rfl, Pl.val20 (Pl.no_len hn.out H1.out), by (repeat' (first | (with_reducible exact Below.refl _ _) | (with_reducible assumption) | (with_reducible refine Below.drew ?_) | (with_reducible refine below_drewN ?_ _) | (with_reducible refine Below.setCell ?_ ?_ _) | (with_reducible refine Below.alloc ?_ ?_ _) | (refine Below.trans ?_ (Below.mono (by with_reducible assumption) ?_)) | omega | (exact Below.size (by with_reducible assumption)) | (simp; done) | (simp; omega)))⟩
  · have H1 := Lib.hid h1
    have hb := btw_iff.1 h1
    clear h1
    go_enter Try.func8, Try.ntmps8
    go_wp2_with fail
    refine (rwithinW _ _ _ _).mono ?_
    rw [H1.out]
    rintro e w1 ⟨rfl, rfl⟩
    go_wp2_with fail
    go_loopg [3] n (fun K i wr => ∃ k : Nat, K + k = n ∧ i = .int .i64 k ∧ Hid (Pl.I1 ps k) ∧ Below w.heap.size w wr)
    case atStart => exact ⟨0, rfl, rfl, ⟨by simp, fun j hj => by omega⟩, Below.refl _ _⟩
    case round =>
      obtain ⟨k, hk, rfl, hI, hbw⟩ := hrel
      by_cases hlt : k < n
      · obtain ⟨g, hg⟩ : ∃ g, Hid (ps[k]? = some g) := ⟨ps[k]'(by have := hn.out; omega), by simp [Hid]⟩
        obtain ⟨b, off, rfl, hbl, hc0, hc1⟩ := rd_p2 (HA.out.below hbw (Nat.le_refl _)) hg.out
        go_wp2_with fail
        refine (rIsPointW g.1 g.2 _).mono ?_
        cases hs : Pl.isP (g.1, g.2)
        · rintro e w1 ⟨rfl, hb1⟩
          have hsx := Lib.hid hs
          clear hs
          go_wp2
          go_ret
          exact ⟨_, rfl, Pl.val20 (Pl.no_pt hg.out hsx.out), by (repeat' (first | (with_reducible exact Below.refl _ _) | (with_reducible assumption) | (with_reducible refine Below.drew ?_) | (with_reducible refine below_drewN ?_ _) | (with_reducible refine Below.setCell ?_ ?_ _) | (with_reducible refine Below.alloc ?_ ?_ _) | (refine Below.trans ?_ (Below.mono (by with_reducible assumption) ?_)) | omega | (exact Below.size (by with_reducible assumption)) | (simp; done) | (simp; omega)))⟩
        · rintro e w1 ⟨rfl, hb1⟩
          have hs' := Lib.hid hs
          have hB1 : Below w.heap.size w w1 := hbw.trans (hb1.mono hbw.size)
          clear hs hc0 hc1 hbl hb1 hbw
          go_wp2_with fail
          go_loopg [4] k (fun K y wr2 => ∃ m : Nat, K + m = k ∧ y = .int .i64 m ∧ Hid (g ∉ ps.take m) ∧ Below w.heap.size w wr2)
          case atStart => exact ⟨0, rfl, rfl, by simp [Hid], hB1⟩
          case round =>
            clear hB1
            obtain ⟨m, hm, rfl, hno, hbw⟩ := hrel
            by_cases hmt : m < k
            · obtain ⟨g', hg'⟩ : ∃ g, Hid (ps[m]? = some g) := ⟨ps[m]'(by have := hn.out; omega), by simp [Hid]⟩
              obtain ⟨b2, off2, hbb, hbl, hc0, hc1⟩ := rd_p2 (HA.out.below hbw (Nat.le_refl _)) hg'.out
              obtain ⟨rfl, rfl⟩ : b = b2 ∧ off = off2 := by simpa using hbb
              clear hbb
              obtain ⟨b3, off3, hbb, _, hc2, hc3⟩ := rd_p2 (HA.out.below hbw (Nat.le_refl _)) hg.out
              obtain ⟨rfl, rfl⟩ : b = b3 ∧ off = off3 := by simpa using hbb
              clear hbb
              have hmn : m < n := by omega
              have hrun := fun w => eql_p2 g' g w
              cases he : decide (g' = g)
              · rw [he] at hrun
                have hne := Lib.hid (of_decide_eq_false he)
                clear he
                go_wp2
                go_quiet (fail)
                clear hc0 hc1 hc2 hc3 hbl hrun
                go_wp2
                go_roundg (k - (m + 1))
                case measure => omega
                case rel =>
                  refine ⟨m + 1, by omega, by go_num, ?_, by (repeat' (first | (with_reducible exact Below.refl _ _) | (with_reducible assumption) | (with_reducible refine Below.drew ?_) | (with_reducible refine below_drewN ?_ _) | (with_reducible refine Below.setCell ?_ ?_ _) | (with_reducible refine Below.alloc ?_ ?_ _) | (refine Below.trans ?_ (Below.mono (by with_reducible assumption) ?_)) | omega | (exact Below.size (by with_reducible assumption)) | (simp; done) | (simp; omega)))⟩
                  show g ∉ _
                  rw [take_snoc hg'.out]
                  simp only [List.mem_append, List.mem_singleton, not_or]
                  exact ⟨hno.out, fun e => hne.out e.symm⟩
              · rw [he] at hrun
                have hexx := Lib.hid (of_decide_eq_true he)
                clear he
                go_wp2
                go_quiet (fail)
                go_wp2
                go_ret
                exact ⟨_, rfl, Pl.val20 (Pl.no_two hg.out (by rw [hg'.out, hexx.out]) hmt), by (repeat' (first | (with_reducible exact Below.refl _ _) | (with_reducible assumption) | (with_reducible refine Below.drew ?_) | (with_reducible refine below_drewN ?_ _) | (with_reducible refine Below.setCell ?_ ?_ _) | (with_reducible refine Below.alloc ?_ ?_ _) | (refine Below.trans ?_ (Below.mono (by with_reducible assumption) ?_)) | omega | (exact Below.size (by with_reducible assumption)) | (simp; done) | (simp; omega)))⟩
            · have hI' : Hid (Pl.I1 ps (k + 1)) := Pl.I1_snoc hI.out hg.out hs'.out (by have := hno.out; rwa [show m = k by omega] at this)
              clear hno hI
              go_wp2
              go_roundg (n - (k + 1))
              case measure => omega
              case rel => exact ⟨k + 1, by omega, by go_num, hI', hbw⟩
      · have hI' : Hid (Pl.I1 ps ps.length) := by have := hI; rwa [show k = ps.length by have := hn.out; omega] at this
        clear hI
        have hP := Lib.hid (Pl.I1_all hI'.out).1
        go_wp2_with fail
        go_loopg [5] n (fun K i wr => ∃ k : Nat, K + k = n ∧ i = .int .i64 k ∧ Hid (Pl.I2 ps k) ∧ Below w.heap.size w wr)
        case atStart => exact ⟨0, rfl, rfl, fun i hi => by omega, hbw⟩
        case round =>
          clear hbw hlt hk
          obtain ⟨t, hk, rfl, hI2, hbw⟩ := hrel
          by_cases hlt : t < n
          · have hN := Lib.hid (show nxI n t < n from Nat.mod_lt _ (by omega))
            have hNN := Lib.hid (show nxI n (nxI n t) < n from Nat.mod_lt _ (by omega))
            obtain ⟨i1, hi1⟩ : ∃ i, nxI n t = i := ⟨_, rfl⟩
            obtain ⟨i2, hi2⟩ : ∃ i, nxI n i1 = i := ⟨_, rfl⟩
            rw [hi1] at hN hNN
            rw [hi2] at hNN
            obtain ⟨⟨gx, gy⟩, hg⟩ : ∃ g, Hid (ps[t]? = some g) := ⟨ps[t]'(by have := hn.out; omega), by simp [Hid]⟩
            obtain ⟨⟨hx, hy⟩, hh⟩ : ∃ g, Hid (ps[i1]? = some g) := ⟨ps[i1]'(by have := hn.out; have := hN.out; omega), by simp [Hid]⟩
            obtain ⟨⟨qx, qy⟩, hq⟩ : ∃ g, Hid (ps[i2]? = some g) := ⟨ps[i2]'(by have := hn.out; have := hNN.out; omega), by simp [Hid]⟩
            have Pg := Lib.hid (List.all_eq_true.1 hP.out _ (List.mem_of_getElem? hg.out))
            have Ph := Lib.hid (List.all_eq_true.1 hP.out _ (List.mem_of_getElem? hh.out))
            have Pq := Lib.hid (List.all_eq_true.1 hP.out _ (List.mem_of_getElem? hq.out))
            have hr1 := fun w => rnextW A n cap t w hlt (by omega)
            rw [hi1] at hr1
            have hr2 := fun w => rnextW A n cap i1 w hN.out (by omega)
            rw [hi2] at hr2
            have R1 := Lib.hid hr1
            have R2 := Lib.hid hr2
            clear hr1 hr2
            go_upto_region 16 with fail
            go_cut [6, 7] from 40 to 109 (fun p q wx => ∃ Z1 Z2 : Nat, p = .pointer (some ⟨Z1, 0, none⟩) ∧ q = .pointer (some ⟨Z2, 0, none⟩) ∧ Own wx Z1 [.int .i64 gx, .int .i64 gy] ∧ Own wx Z2 [.int .i64 hx, .int .i64 hy] ∧ Below w.heap.size w wx)
            case first =>
              obtain ⟨b, off, rfl, hbl, hc0, hc1⟩ := rd_p2 (HA.out.below hbw (Nat.le_refl _)) hg.out
              obtain ⟨b3, off3, hbb, _, hc2, hc3⟩ := rd_p2 (HA.out.below hbw (Nat.le_refl _)) hh.out
              obtain ⟨rfl, rfl⟩ : b = b3 ∧ off = off3 := by simpa using hbb
              clear hbb
              have hn1 := hN.out
              have S0 : PtS b off t i1 gx gy hx hy wr.drew := PtS.below ⟨hbl, hc0, hc1, hc2, hc3⟩ (Below.refl _ _).drew
              have B0 : Below w.heap.size w wr.drew := hbw.drew
              refine rg_start (PtS b off t i1 gx gy hx hy) 14 (by kernel_rfl) rfl ?_
              generalize World.drew _ = V0 at S0 B0 ⊢
              clear hbl hc0 hc1 hc2 hc3 hbw
              refine rg_take (fuel := 7) [0, 1, 2, 3, 4, 5, 6] (by kernel_rfl) (by intro _ _ d _ _ h; first | (cases d <;> exact h) | (simp [Exit.then, Exit.inBlock, ownPostG] at h)) rfl (by kernel_rfl) (by kernel_rfl) S0 ?_; simp only [pickL, pick1, List.cons_append, List.nil_append]
              iterate 7 (refine wpTake_cons (v := ?_) (Or.inl ⟨by rfl, ?_⟩) ?_; rotate_left; (intro w' hSw; have ya := hSw.ca; have yb := hSw.cb; have yc := hSw.cc; have yd := hSw.cd; have yl3 := hSw.l; clear hSw; go_simp; (try with_reducible rfl)); (try simp only [Act.put, List.setIfInBounds_toArray, List.set_cons_zero, List.set_cons_succ]))
              refine wpTake_nil ?_
              refine rg_manyC (fuel := 6) [7, 10, 11] rfl (by simp) (by kernel_rfl) (by kernel_rfl) ?_
              intro cc hcc
              rcases (show cc = 7 ∨ cc = 10 ∨ cc = 11 by simpa using hcc) with rfl | rfl | rfl <;> simp only [pick1, wpHead]
              · intro K' hK; rw [if_pos (by rfl)]; go_simp
                refine (R1.out _).mono ?_
                rintro e w1 ⟨rfl, rfl⟩
                refine hK.out _ _ S0 ?_
                clear hK K'; (try simp only [Act.put, List.setIfInBounds_toArray, List.set_cons_zero, List.set_cons_succ])
                refine rg_take (fuel := 4) [8, 9] (by kernel_rfl) (by intro _ _ d _ _ h; first | (cases d <;> exact h) | (simp [Exit.then, Exit.inBlock, ownPostG] at h)) rfl (by kernel_rfl) (by kernel_rfl) S0 ?_; simp only [pickL, pick1, List.cons_append, List.nil_append]
                iterate 2 (refine wpTake_cons (v := ?_) (Or.inl ⟨by rfl, ?_⟩) ?_; rotate_left; (intro w' hSw; have ya := hSw.ca; have yb := hSw.cb; have yc := hSw.cc; have yd := hSw.cd; have yl3 := hSw.l; clear hSw; go_simp; (try with_reducible rfl)); (try simp only [Act.put, List.setIfInBounds_toArray, List.set_cons_zero, List.set_cons_succ]))
                refine wpTake_nil ?_
                refine rg_two (fuel := 3) 10 11 rfl (by kernel_rfl) (by kernel_rfl) ?_ ?_ <;> simp only [pick1, wpHead]
                · obtain ⟨ZA, hZA⟩ : ∃ Z, V0.heap.size = Z := ⟨_, rfl⟩
                  intro K' hK; rw [if_pos (by rfl)]; go_simp
                  have ba : Below V0.heap.size V0 (V0.alloc (Obj.cells #[.int .i64 0, .int .i64 0] 53)) := (Below.refl _ _).alloc (Nat.le_refl _) _
                  have S1 := S0.below ba
                  have hbA : b < ZA := by have := S0.l; omega
                  have hwA : w.heap.size ≤ ZA := by have := B0.size; omega
                  have B1 := B0.trans (ba.mono B0.size)
                  have oA : Own (V0.alloc (Obj.cells #[.int .i64 0, .int .i64 0] 53)) ZA [.int .i64 0, .int .i64 0] := Own.new' _ _ hZA.symm rfl
                  refine hK.out _ _ S1 ?_
                  clear hK K'; (try simp only [Act.put, List.setIfInBounds_toArray, List.set_cons_zero, List.set_cons_succ])
                  clear S0 B0 ba
                  generalize V0.alloc (Obj.cells #[.int .i64 0, .int .i64 0] 53) = V1 at S1 B1 oA ⊢
                  have S0 := S1
                  have B0 := B1
                  clear S1 B1
                  refine rg_one (fuel := 2) 11 rfl (by kernel_rfl) (by kernel_rfl) ?_; simp only [pick1, wpHead]
                  obtain ⟨ZB, hZB⟩ : ∃ Z, V1.heap.size = Z := ⟨_, rfl⟩
                  intro K' hK; rw [if_pos (by rfl)]; go_simp
                  have ba : Below V1.heap.size V1 (V1.alloc (Obj.cells #[.int .i64 0, .int .i64 0] 53)) := (Below.refl _ _).alloc (Nat.le_refl _) _
                  have S1 := S0.below ba
                  have hbB : b < ZB := by have := S0.l; omega
                  have hwB : w.heap.size ≤ ZB := by have := B0.size; omega
                  have B1 := B0.trans (ba.mono B0.size)
                  have oB : Own (V1.alloc (Obj.cells #[.int .i64 0, .int .i64 0] 53)) ZB [.int .i64 0, .int .i64 0] := Own.new' _ _ hZB.symm rfl
                  have hAB := oA.lt
                  rw [hZB] at hAB
                  have oA2 := oA.below ba oA.lt
                  refine hK.out _ _ S1 ?_
                  clear hK K'; (try simp only [Act.put, List.setIfInBounds_toArray, List.set_cons_zero, List.set_cons_succ])
                  clear S0 B0 ba oA
                  generalize V1.alloc (Obj.cells #[.int .i64 0, .int .i64 0] 53) = V2 at S1 B1 oB oA2 ⊢
                  have S0 := S1
                  have B0 := B1
                  have oA := oA2
                  clear S1 B1 oA2
                  have oA' := Lib.hid oA
                  have oB' := Lib.hid oB
                  obtain ⟨lA, cA, fA⟩ := oA
                  obtain ⟨lB, cB, fB⟩ := oB
                  refine rg_one (fuel := 1) 12 rfl (by kernel_rfl) (by kernel_rfl) ?_; simp only [pick1, wpHead]
                  intro K' hK; rw [if_pos (by rfl)]; go_simp
                  refine hK.out _ _ (S0.set2 (Z := ZA) hbA _ _) ?_
                  clear hK K'; (try simp only [Act.put, List.setIfInBounds_toArray, List.set_cons_zero, List.set_cons_succ])
                  refine rg_one (fuel := 0) 13 rfl (by kernel_rfl) (by kernel_rfl) ?_; simp only [pick1, wpHead]
                  intro K' hK; rw [if_pos (by rfl)]; go_simp
                  have fy := ((oB'.out.setOther (a := ⟨ZA, 0, none⟩) (by dsimp only; omega) (.int .i64 gx)).setOther (a := ⟨ZA, 1, none⟩) (by dsimp only; omega) (.int .i64 gy))
                  obtain ⟨lB2, cB2, fB2⟩ := fy
                  go_simp
                  refine hK.out _ _ ((S0.set2 (Z := ZA) hbA _ _).set2 (Z := ZB) hbB _ _) ?_
                  clear hK K'
                  refine rg_done (by kernel_rfl) ?_
                  go_wp2_with fail
                  go_meet
                  exact ⟨ZA, ZB, rfl, rfl, ((own_set2p oA'.out _ _).setOther (by dsimp only; omega) _).setOther (by dsimp only; omega) _, own_set2p ((oB'.out.setOther (by dsimp only; omega) _).setOther (by dsimp only; omega) _) _ _, (((B0.setCell (by dsimp only; omega) _).setCell (by dsimp only; omega) _).setCell (by dsimp only; omega) _).setCell (by dsimp only; omega) _⟩
                · obtain ⟨ZB, hZB⟩ : ∃ Z, V0.heap.size = Z := ⟨_, rfl⟩
                  intro K' hK; rw [if_pos (by rfl)]; go_simp
                  have ba : Below V0.heap.size V0 (V0.alloc (Obj.cells #[.int .i64 0, .int .i64 0] 53)) := (Below.refl _ _).alloc (Nat.le_refl _) _
                  have S1 := S0.below ba
                  have hbB : b < ZB := by have := S0.l; omega
                  have hwB : w.heap.size ≤ ZB := by have := B0.size; omega
                  have B1 := B0.trans (ba.mono B0.size)
                  have oB : Own (V0.alloc (Obj.cells #[.int .i64 0, .int .i64 0] 53)) ZB [.int .i64 0, .int .i64 0] := Own.new' _ _ hZB.symm rfl
                  refine hK.out _ _ S1 ?_
                  clear hK K'; (try simp only [Act.put, List.setIfInBounds_toArray, List.set_cons_zero, List.set_cons_succ])
                  clear S0 B0 ba
                  generalize V0.alloc (Obj.cells #[.int .i64 0, .int .i64 0] 53) = V1 at S1 B1 oB ⊢
                  have S0 := S1
                  have B0 := B1
                  clear S1 B1
                  refine rg_one (fuel := 2) 10 rfl (by kernel_rfl) (by kernel_rfl) ?_; simp only [pick1, wpHead]
                  obtain ⟨ZA, hZA⟩ : ∃ Z, V1.heap.size = Z := ⟨_, rfl⟩
                  intro K' hK; rw [if_pos (by rfl)]; go_simp
                  have ba : Below V1.heap.size V1 (V1.alloc (Obj.cells #[.int .i64 0, .int .i64 0] 53)) := (Below.refl _ _).alloc (Nat.le_refl _) _
                  have S1 := S0.below ba
                  have hbA : b < ZA := by have := S0.l; omega
                  have hwA : w.heap.size ≤ ZA := by have := B0.size; omega
                  have B1 := B0.trans (ba.mono B0.size)
                  have oA : Own (V1.alloc (Obj.cells #[.int .i64 0, .int .i64 0] 53)) ZA [.int .i64 0, .int .i64 0] := Own.new' _ _ hZA.symm rfl
                  have hAB := oB.lt
                  rw [hZA] at hAB
                  have oB2 := oB.below ba oB.lt
                  refine hK.out _ _ S1 ?_
                  clear hK K'; (try simp only [Act.put, List.setIfInBounds_toArray, List.set_cons_zero, List.set_cons_succ])
                  clear S0 B0 ba oB
                  generalize V1.alloc (Obj.cells #[.int .i64 0, .int .i64 0] 53) = V2 at S1 B1 oA oB2 ⊢
                  have S0 := S1
                  have B0 := B1
                  have oB := oB2
                  clear S1 B1 oB2
                  have oA' := Lib.hid oA
                  have oB' := Lib.hid oB
                  obtain ⟨lA, cA, fA⟩ := oA
                  obtain ⟨lB, cB, fB⟩ := oB
                  refine rg_one (fuel := 1) 12 rfl (by kernel_rfl) (by kernel_rfl) ?_; simp only [pick1, wpHead]
                  intro K' hK; rw [if_pos (by rfl)]; go_simp
                  refine hK.out _ _ (S0.set2 (Z := ZA) hbA _ _) ?_
                  clear hK K'; (try simp only [Act.put, List.setIfInBounds_toArray, List.set_cons_zero, List.set_cons_succ])
                  refine rg_one (fuel := 0) 13 rfl (by kernel_rfl) (by kernel_rfl) ?_; simp only [pick1, wpHead]
                  intro K' hK; rw [if_pos (by rfl)]; go_simp
                  have fy := ((oB'.out.setOther (a := ⟨ZA, 0, none⟩) (by dsimp only; omega) (.int .i64 gx)).setOther (a := ⟨ZA, 1, none⟩) (by dsimp only; omega) (.int .i64 gy))
                  obtain ⟨lB2, cB2, fB2⟩ := fy
                  go_simp
                  refine hK.out _ _ ((S0.set2 (Z := ZA) hbA _ _).set2 (Z := ZB) hbB _ _) ?_
                  clear hK K'
                  refine rg_done (by kernel_rfl) ?_
                  go_wp2_with fail
                  go_meet
                  exact ⟨ZA, ZB, rfl, rfl, ((own_set2p oA'.out _ _).setOther (by dsimp only; omega) _).setOther (by dsimp only; omega) _, own_set2p ((oB'.out.setOther (by dsimp only; omega) _).setOther (by dsimp only; omega) _) _ _, (((B0.setCell (by dsimp only; omega) _).setCell (by dsimp only; omega) _).setCell (by dsimp only; omega) _).setCell (by dsimp only; omega) _⟩
              · obtain ⟨ZA, hZA⟩ : ∃ Z, V0.heap.size = Z := ⟨_, rfl⟩
                intro K' hK; rw [if_pos (by rfl)]; go_simp
                have ba : Below V0.heap.size V0 (V0.alloc (Obj.cells #[.int .i64 0, .int .i64 0] 53)) := (Below.refl _ _).alloc (Nat.le_refl _) _
                have S1 := S0.below ba
                have hbA : b < ZA := by have := S0.l; omega
                have hwA : w.heap.size ≤ ZA := by have := B0.size; omega
                have B1 := B0.trans (ba.mono B0.size)
                have oA : Own (V0.alloc (Obj.cells #[.int .i64 0, .int .i64 0] 53)) ZA [.int .i64 0, .int .i64 0] := Own.new' _ _ hZA.symm rfl
                refine hK.out _ _ S1 ?_
                clear hK K'; (try simp only [Act.put, List.setIfInBounds_toArray, List.set_cons_zero, List.set_cons_succ])
                clear S0 B0 ba
                generalize V0.alloc (Obj.cells #[.int .i64 0, .int .i64 0] 53) = V1 at S1 B1 oA ⊢
                have S0 := S1
                have B0 := B1
                clear S1 B1
                refine rg_two (fuel := 5) 7 11 rfl (by kernel_rfl) (by kernel_rfl) ?_ ?_ <;> simp only [pick1, wpHead]
                · intro K' hK; rw [if_pos (by rfl)]; go_simp
                  refine (R1.out _).mono ?_
                  rintro e w1 ⟨rfl, rfl⟩
                  refine hK.out _ _ S0 ?_
                  clear hK K'; (try simp only [Act.put, List.setIfInBounds_toArray, List.set_cons_zero, List.set_cons_succ])
                  refine rg_take (fuel := 3) [8, 9] (by kernel_rfl) (by intro _ _ d _ _ h; first | (cases d <;> exact h) | (simp [Exit.then, Exit.inBlock, ownPostG] at h)) rfl (by kernel_rfl) (by kernel_rfl) S0 ?_; simp only [pickL, pick1, List.cons_append, List.nil_append]
                  iterate 2 (refine wpTake_cons (v := ?_) (Or.inl ⟨by rfl, ?_⟩) ?_; rotate_left; (intro w' hSw; have ya := hSw.ca; have yb := hSw.cb; have yc := hSw.cc; have yd := hSw.cd; have yl3 := hSw.l; clear hSw; go_simp; (try with_reducible rfl)); (try simp only [Act.put, List.setIfInBounds_toArray, List.set_cons_zero, List.set_cons_succ]))
                  refine wpTake_nil ?_
                  refine rg_one (fuel := 2) 11 rfl (by kernel_rfl) (by kernel_rfl) ?_; simp only [pick1, wpHead]
                  obtain ⟨ZB, hZB⟩ : ∃ Z, V1.heap.size = Z := ⟨_, rfl⟩
                  intro K' hK; rw [if_pos (by rfl)]; go_simp
                  have ba : Below V1.heap.size V1 (V1.alloc (Obj.cells #[.int .i64 0, .int .i64 0] 53)) := (Below.refl _ _).alloc (Nat.le_refl _) _
                  have S1 := S0.below ba
                  have hbB : b < ZB := by have := S0.l; omega
                  have hwB : w.heap.size ≤ ZB := by have := B0.size; omega
                  have B1 := B0.trans (ba.mono B0.size)
                  have oB : Own (V1.alloc (Obj.cells #[.int .i64 0, .int .i64 0] 53)) ZB [.int .i64 0, .int .i64 0] := Own.new' _ _ hZB.symm rfl
                  have hAB := oA.lt
                  rw [hZB] at hAB
                  have oA2 := oA.below ba oA.lt
                  refine hK.out _ _ S1 ?_
                  clear hK K'; (try simp only [Act.put, List.setIfInBounds_toArray, List.set_cons_zero, List.set_cons_succ])
                  clear S0 B0 ba oA
                  generalize V1.alloc (Obj.cells #[.int .i64 0, .int .i64 0] 53) = V2 at S1 B1 oB oA2 ⊢
                  have S0 := S1
                  have B0 := B1
                  have oA := oA2
                  clear S1 B1 oA2
                  have oA' := Lib.hid oA
                  have oB' := Lib.hid oB
                  obtain ⟨lA, cA, fA⟩ := oA
                  obtain ⟨lB, cB, fB⟩ := oB
                  refine rg_one (fuel := 1) 12 rfl (by kernel_rfl) (by kernel_rfl) ?_; simp only [pick1, wpHead]
                  intro K' hK; rw [if_pos (by rfl)]; go_simp
                  refine hK.out _ _ (S0.set2 (Z := ZA) hbA _ _) ?_
                  clear hK K'; (try simp only [Act.put, List.setIfInBounds_toArray, List.set_cons_zero, List.set_cons_succ])
                  refine rg_one (fuel := 0) 13 rfl (by kernel_rfl) (by kernel_rfl) ?_; simp only [pick1, wpHead]
                  intro K' hK; rw [if_pos (by rfl)]; go_simp
                  have fy := ((oB'.out.setOther (a := ⟨ZA, 0, none⟩) (by dsimp only; omega) (.int .i64 gx)).setOther (a := ⟨ZA, 1, none⟩) (by dsimp only; omega) (.int .i64 gy))
                  obtain ⟨lB2, cB2, fB2⟩ := fy
                  go_simp
                  refine hK.out _ _ ((S0.set2 (Z := ZA) hbA _ _).set2 (Z := ZB) hbB _ _) ?_
                  clear hK K'
                  refine rg_done (by kernel_rfl) ?_
                  go_wp2_with fail
                  go_meet
                  exact ⟨ZA, ZB, rfl, rfl, ((own_set2p oA'.out _ _).setOther (by dsimp only; omega) _).setOther (by dsimp only; omega) _, own_set2p ((oB'.out.setOther (by dsimp only; omega) _).setOther (by dsimp only; omega) _) _ _, (((B0.setCell (by dsimp only; omega) _).setCell (by dsimp only; omega) _).setCell (by dsimp only; omega) _).setCell (by dsimp only; omega) _⟩
                · obtain ⟨ZB, hZB⟩ : ∃ Z, V1.heap.size = Z := ⟨_, rfl⟩
                  intro K' hK; rw [if_pos (by rfl)]; go_simp
                  have ba : Below V1.heap.size V1 (V1.alloc (Obj.cells #[.int .i64 0, .int .i64 0] 53)) := (Below.refl _ _).alloc (Nat.le_refl _) _
                  have S1 := S0.below ba
                  have hbB : b < ZB := by have := S0.l; omega
                  have hwB : w.heap.size ≤ ZB := by have := B0.size; omega
                  have B1 := B0.trans (ba.mono B0.size)
                  have oB : Own (V1.alloc (Obj.cells #[.int .i64 0, .int .i64 0] 53)) ZB [.int .i64 0, .int .i64 0] := Own.new' _ _ hZB.symm rfl
                  have hAB := oA.lt
                  rw [hZB] at hAB
                  have oA2 := oA.below ba oA.lt
                  refine hK.out _ _ S1 ?_
                  clear hK K'; (try simp only [Act.put, List.setIfInBounds_toArray, List.set_cons_zero, List.set_cons_succ])
                  clear S0 B0 ba oA
                  generalize V1.alloc (Obj.cells #[.int .i64 0, .int .i64 0] 53) = V2 at S1 B1 oB oA2 ⊢
                  have S0 := S1
                  have B0 := B1
                  have oA := oA2
                  clear S1 B1 oA2
                  refine rg_one (fuel := 4) 7 rfl (by kernel_rfl) (by kernel_rfl) ?_; simp only [pick1, wpHead]
                  intro K' hK; rw [if_pos (by rfl)]; go_simp
                  refine (R1.out _).mono ?_
                  rintro e w1 ⟨rfl, rfl⟩
                  refine hK.out _ _ S0 ?_
                  clear hK K'; (try simp only [Act.put, List.setIfInBounds_toArray, List.set_cons_zero, List.set_cons_succ])
                  refine rg_take (fuel := 2) [8, 9] (by kernel_rfl) (by intro _ _ d _ _ h; first | (cases d <;> exact h) | (simp [Exit.then, Exit.inBlock, ownPostG] at h)) rfl (by kernel_rfl) (by kernel_rfl) S0 ?_; simp only [pickL, pick1, List.cons_append, List.nil_append]
                  iterate 2 (refine wpTake_cons (v := ?_) (Or.inl ⟨by rfl, ?_⟩) ?_; rotate_left; (intro w' hSw; have ya := hSw.ca; have yb := hSw.cb; have yc := hSw.cc; have yd := hSw.cd; have yl3 := hSw.l; clear hSw; go_simp; (try with_reducible rfl)); (try simp only [Act.put, List.setIfInBounds_toArray, List.set_cons_zero, List.set_cons_succ]))
                  refine wpTake_nil ?_
                  have oA' := Lib.hid oA
                  have oB' := Lib.hid oB
                  obtain ⟨lA, cA, fA⟩ := oA
                  obtain ⟨lB, cB, fB⟩ := oB
                  refine rg_one (fuel := 1) 12 rfl (by kernel_rfl) (by kernel_rfl) ?_; simp only [pick1, wpHead]
                  intro K' hK; rw [if_pos (by rfl)]; go_simp
                  refine hK.out _ _ (S0.set2 (Z := ZA) hbA _ _) ?_
                  clear hK K'; (try simp only [Act.put, List.setIfInBounds_toArray, List.set_cons_zero, List.set_cons_succ])
                  refine rg_one (fuel := 0) 13 rfl (by kernel_rfl) (by kernel_rfl) ?_; simp only [pick1, wpHead]
                  intro K' hK; rw [if_pos (by rfl)]; go_simp
                  have fy := ((oB'.out.setOther (a := ⟨ZA, 0, none⟩) (by dsimp only; omega) (.int .i64 gx)).setOther (a := ⟨ZA, 1, none⟩) (by dsimp only; omega) (.int .i64 gy))
                  obtain ⟨lB2, cB2, fB2⟩ := fy
                  go_simp
                  refine hK.out _ _ ((S0.set2 (Z := ZA) hbA _ _).set2 (Z := ZB) hbB _ _) ?_
                  clear hK K'
                  refine rg_done (by kernel_rfl) ?_
                  go_wp2_with fail
                  go_meet
                  exact ⟨ZA, ZB, rfl, rfl, ((own_set2p oA'.out _ _).setOther (by dsimp only; omega) _).setOther (by dsimp only; omega) _, own_set2p ((oB'.out.setOther (by dsimp only; omega) _).setOther (by dsimp only; omega) _) _ _, (((B0.setCell (by dsimp only; omega) _).setCell (by dsimp only; omega) _).setCell (by dsimp only; omega) _).setCell (by dsimp only; omega) _⟩
              · obtain ⟨ZB, hZB⟩ : ∃ Z, V0.heap.size = Z := ⟨_, rfl⟩
                intro K' hK; rw [if_pos (by rfl)]; go_simp
                have ba : Below V0.heap.size V0 (V0.alloc (Obj.cells #[.int .i64 0, .int .i64 0] 53)) := (Below.refl _ _).alloc (Nat.le_refl _) _
                have S1 := S0.below ba
                have hbB : b < ZB := by have := S0.l; omega
                have hwB : w.heap.size ≤ ZB := by have := B0.size; omega
                have B1 := B0.trans (ba.mono B0.size)
                have oB : Own (V0.alloc (Obj.cells #[.int .i64 0, .int .i64 0] 53)) ZB [.int .i64 0, .int .i64 0] := Own.new' _ _ hZB.symm rfl
                refine hK.out _ _ S1 ?_
                clear hK K'; (try simp only [Act.put, List.setIfInBounds_toArray, List.set_cons_zero, List.set_cons_succ])
                clear S0 B0 ba
                generalize V0.alloc (Obj.cells #[.int .i64 0, .int .i64 0] 53) = V1 at S1 B1 oB ⊢
                have S0 := S1
                have B0 := B1
                clear S1 B1
                refine rg_two (fuel := 5) 7 10 rfl (by kernel_rfl) (by kernel_rfl) ?_ ?_ <;> simp only [pick1, wpHead]
                · intro K' hK; rw [if_pos (by rfl)]; go_simp
                  refine (R1.out _).mono ?_
                  rintro e w1 ⟨rfl, rfl⟩
                  refine hK.out _ _ S0 ?_
                  clear hK K'; (try simp only [Act.put, List.setIfInBounds_toArray, List.set_cons_zero, List.set_cons_succ])
                  refine rg_take (fuel := 3) [8, 9] (by kernel_rfl) (by intro _ _ d _ _ h; first | (cases d <;> exact h) | (simp [Exit.then, Exit.inBlock, ownPostG] at h)) rfl (by kernel_rfl) (by kernel_rfl) S0 ?_; simp only [pickL, pick1, List.cons_append, List.nil_append]
                  iterate 2 (refine wpTake_cons (v := ?_) (Or.inl ⟨by rfl, ?_⟩) ?_; rotate_left; (intro w' hSw; have ya := hSw.ca; have yb := hSw.cb; have yc := hSw.cc; have yd := hSw.cd; have yl3 := hSw.l; clear hSw; go_simp; (try with_reducible rfl)); (try simp only [Act.put, List.setIfInBounds_toArray, List.set_cons_zero, List.set_cons_succ]))
                  refine wpTake_nil ?_
                  refine rg_one (fuel := 2) 10 rfl (by kernel_rfl) (by kernel_rfl) ?_; simp only [pick1, wpHead]
                  obtain ⟨ZA, hZA⟩ : ∃ Z, V1.heap.size = Z := ⟨_, rfl⟩
                  intro K' hK; rw [if_pos (by rfl)]; go_simp
                  have ba : Below V1.heap.size V1 (V1.alloc (Obj.cells #[.int .i64 0, .int .i64 0] 53)) := (Below.refl _ _).alloc (Nat.le_refl _) _
                  have S1 := S0.below ba
                  have hbA : b < ZA := by have := S0.l; omega
                  have hwA : w.heap.size ≤ ZA := by have := B0.size; omega
                  have B1 := B0.trans (ba.mono B0.size)
                  have oA : Own (V1.alloc (Obj.cells #[.int .i64 0, .int .i64 0] 53)) ZA [.int .i64 0, .int .i64 0] := Own.new' _ _ hZA.symm rfl
                  have hAB := oB.lt
                  rw [hZA] at hAB
                  have oB2 := oB.below ba oB.lt
                  refine hK.out _ _ S1 ?_
                  clear hK K'; (try simp only [Act.put, List.setIfInBounds_toArray, List.set_cons_zero, List.set_cons_succ])
                  clear S0 B0 ba oB
                  generalize V1.alloc (Obj.cells #[.int .i64 0, .int .i64 0] 53) = V2 at S1 B1 oA oB2 ⊢
                  have S0 := S1
                  have B0 := B1
                  have oB := oB2
                  clear S1 B1 oB2
                  have oA' := Lib.hid oA
                  have oB' := Lib.hid oB
                  obtain ⟨lA, cA, fA⟩ := oA
                  obtain ⟨lB, cB, fB⟩ := oB
                  refine rg_one (fuel := 1) 12 rfl (by kernel_rfl) (by kernel_rfl) ?_; simp only [pick1, wpHead]
                  intro K' hK; rw [if_pos (by rfl)]; go_simp
                  refine hK.out _ _ (S0.set2 (Z := ZA) hbA _ _) ?_
                  clear hK K'; (try simp only [Act.put, List.setIfInBounds_toArray, List.set_cons_zero, List.set_cons_succ])
                  refine rg_one (fuel := 0) 13 rfl (by kernel_rfl) (by kernel_rfl) ?_; simp only [pick1, wpHead]
                  intro K' hK; rw [if_pos (by rfl)]; go_simp
                  have fy := ((oB'.out.setOther (a := ⟨ZA, 0, none⟩) (by dsimp only; omega) (.int .i64 gx)).setOther (a := ⟨ZA, 1, none⟩) (by dsimp only; omega) (.int .i64 gy))
                  obtain ⟨lB2, cB2, fB2⟩ := fy
                  go_simp
                  refine hK.out _ _ ((S0.set2 (Z := ZA) hbA _ _).set2 (Z := ZB) hbB _ _) ?_
                  clear hK K'
                  refine rg_done (by kernel_rfl) ?_
                  go_wp2_with fail
                  go_meet
                  exact ⟨ZA, ZB, rfl, rfl, ((own_set2p oA'.out _ _).setOther (by dsimp only; omega) _).setOther (by dsimp only; omega) _, own_set2p ((oB'.out.setOther (by dsimp only; omega) _).setOther (by dsimp only; omega) _) _ _, (((B0.setCell (by dsimp only; omega) _).setCell (by dsimp only; omega) _).setCell (by dsimp only; omega) _).setCell (by dsimp only; omega) _⟩
                · obtain ⟨ZA, hZA⟩ : ∃ Z, V1.heap.size = Z := ⟨_, rfl⟩
                  intro K' hK; rw [if_pos (by rfl)]; go_simp
                  have ba : Below V1.heap.size V1 (V1.alloc (Obj.cells #[.int .i64 0, .int .i64 0] 53)) := (Below.refl _ _).alloc (Nat.le_refl _) _
                  have S1 := S0.below ba
                  have hbA : b < ZA := by have := S0.l; omega
                  have hwA : w.heap.size ≤ ZA := by have := B0.size; omega
                  have B1 := B0.trans (ba.mono B0.size)
                  have oA : Own (V1.alloc (Obj.cells #[.int .i64 0, .int .i64 0] 53)) ZA [.int .i64 0, .int .i64 0] := Own.new' _ _ hZA.symm rfl
                  have hAB := oB.lt
                  rw [hZA] at hAB
                  have oB2 := oB.below ba oB.lt
                  refine hK.out _ _ S1 ?_
                  clear hK K'; (try simp only [Act.put, List.setIfInBounds_toArray, List.set_cons_zero, List.set_cons_succ])
                  clear S0 B0 ba oB
                  generalize V1.alloc (Obj.cells #[.int .i64 0, .int .i64 0] 53) = V2 at S1 B1 oA oB2 ⊢
                  have S0 := S1
                  have B0 := B1
                  have oB := oB2
                  clear S1 B1 oB2
                  refine rg_one (fuel := 4) 7 rfl (by kernel_rfl) (by kernel_rfl) ?_; simp only [pick1, wpHead]
                  intro K' hK; rw [if_pos (by rfl)]; go_simp
                  refine (R1.out _).mono ?_
                  rintro e w1 ⟨rfl, rfl⟩
                  refine hK.out _ _ S0 ?_
                  clear hK K'; (try simp only [Act.put, List.setIfInBounds_toArray, List.set_cons_zero, List.set_cons_succ])
                  refine rg_take (fuel := 2) [8, 9] (by kernel_rfl) (by intro _ _ d _ _ h; first | (cases d <;> exact h) | (simp [Exit.then, Exit.inBlock, ownPostG] at h)) rfl (by kernel_rfl) (by kernel_rfl) S0 ?_; simp only [pickL, pick1, List.cons_append, List.nil_append]
                  iterate 2 (refine wpTake_cons (v := ?_) (Or.inl ⟨by rfl, ?_⟩) ?_; rotate_left; (intro w' hSw; have ya := hSw.ca; have yb := hSw.cb; have yc := hSw.cc; have yd := hSw.cd; have yl3 := hSw.l; clear hSw; go_simp; (try with_reducible rfl)); (try simp only [Act.put, List.setIfInBounds_toArray, List.set_cons_zero, List.set_cons_succ]))
                  refine wpTake_nil ?_
                  have oA' := Lib.hid oA
                  have oB' := Lib.hid oB
                  obtain ⟨lA, cA, fA⟩ := oA
                  obtain ⟨lB, cB, fB⟩ := oB
                  refine rg_one (fuel := 1) 12 rfl (by kernel_rfl) (by kernel_rfl) ?_; simp only [pick1, wpHead]
                  intro K' hK; rw [if_pos (by rfl)]; go_simp
                  refine hK.out _ _ (S0.set2 (Z := ZA) hbA _ _) ?_
                  clear hK K'; (try simp only [Act.put, List.setIfInBounds_toArray, List.set_cons_zero, List.set_cons_succ])
                  refine rg_one (fuel := 0) 13 rfl (by kernel_rfl) (by kernel_rfl) ?_; simp only [pick1, wpHead]
                  intro K' hK; rw [if_pos (by rfl)]; go_simp
                  have fy := ((oB'.out.setOther (a := ⟨ZA, 0, none⟩) (by dsimp only; omega) (.int .i64 gx)).setOther (a := ⟨ZA, 1, none⟩) (by dsimp only; omega) (.int .i64 gy))
                  obtain ⟨lB2, cB2, fB2⟩ := fy
                  go_simp
                  refine hK.out _ _ ((S0.set2 (Z := ZA) hbA _ _).set2 (Z := ZB) hbB _ _) ?_
                  clear hK K'
                  refine rg_done (by kernel_rfl) ?_
                  go_wp2_with fail
                  go_meet
                  exact ⟨ZA, ZB, rfl, rfl, ((own_set2p oA'.out _ _).setOther (by dsimp only; omega) _).setOther (by dsimp only; omega) _, own_set2p ((oB'.out.setOther (by dsimp only; omega) _).setOther (by dsimp only; omega) _) _ _, (((B0.setCell (by dsimp only; omega) _).setCell (by dsimp only; omega) _).setCell (by dsimp only; omega) _).setCell (by dsimp only; omega) _⟩
            case rest =>
              clear hbw
              obtain ⟨Z1, Z2, rfl, rfl, o1, o2, hB⟩ := hcut
              have o1' := Lib.hid o1
              have o2' := Lib.hid o2
              obtain ⟨b, off, rfl, hbl, hc0, hc1⟩ := rd_p2 (HA.out.below hB (Nat.le_refl _)) hq.out
              obtain ⟨l1, c1, f1⟩ := o1
              obtain ⟨l2, c2, f2⟩ := o2
              have hn2 := hNN.out
              go_wp2_with fail
              refine (R1.out _).mono ?_
              rintro e w1 ⟨rfl, rfl⟩
              go_wp2_with fail
              refine (R2.out _).mono ?_
              rintro e w1 ⟨rfl, rfl⟩
              have a1 := o1'.out.alloc (Obj.cells #[.int .i64 qx, .int .i64 qy] 53)
              have a2 := o2'.out.alloc (Obj.cells #[.int .i64 qx, .int .i64 qy] 53)
              have a3 : Own (wc.alloc (Obj.cells #[.int .i64 qx, .int .i64 qy] 53)) wc.heap.size [.int .i64 qx, .int .i64 qy] := Own.new' _ _ rfl rfl
              have hBa : Below w.heap.size w (wc.alloc (Obj.cells #[.int .i64 qx, .int .i64 qy] 53)) := by (repeat' (first | (with_reducible exact Below.refl _ _) | (with_reducible assumption) | (with_reducible refine Below.drew ?_) | (with_reducible refine below_drewN ?_ _) | (with_reducible refine Below.setCell ?_ ?_ _) | (with_reducible refine Below.alloc ?_ ?_ _) | (refine Below.trans ?_ (Below.mono (by with_reducible assumption) ?_)) | omega | (exact Below.size (by with_reducible assumption)) | (simp; done) | (simp; omega)))
              go_wp2_with fail
              refine (rOnW gx gy hx hy qx qy _ Pg.out Ph.out Pq.out).mono ?_
              clear o1' o2' l1 c1 f1 l2 c2 f2 hc0 hc1 hbl hB
              cases hs1 : Pl.has (gx, gy) (hx, hy) (qx, qy)
              · rintro e w2 ⟨rfl, hb2⟩
                have H1' := Lib.hid hs1
                have b1 := a1.below hb2 a1.lt
                have b2 := a2.below hb2 a2.lt
                have b3 := a3.below hb2 a3.lt
                have hB2 := hBa.trans (hb2.mono hBa.size)
                clear hs1 a1 a2 a3 hb2 hBa
                have b1' := Lib.hid b1
                have b2' := Lib.hid b2
                obtain ⟨l1, c1, f1⟩ := b1
                obtain ⟨l2, c2, f2⟩ := b2
                obtain ⟨l3, c3, f3⟩ := b3
                go_wp2_with fail
                refine (rOnW hx hy qx qy gx gy _ Ph.out Pq.out Pg.out).mono ?_
                cases hs2 : Pl.has (hx, hy) (qx, qy) (gx, gy)
                · rintro e w3 ⟨rfl, hb3⟩
                  have H2' := Lib.hid hs2
                  have d1 := b1'.out.below hb3 l1
                  have d2 := b2'.out.below hb3 l2
                  have hB3 := hB2.trans (hb3.mono hB2.size)
                  clear hs2 b1' b2' hb3 hB2 l1 c1 f1 l2 c2 f2 l3 c3 f3
                  go_wp2_with fail
                  go_loopg [9] n (fun K y wr => ∃ j : Nat, K + j = n ∧ y = .int .i64 j ∧ Hid (∀ m, m < j → Pl.bad ps t m = false) ∧ Own wr Z1 [.int .i64 gx, .int .i64 gy] ∧ Own wr Z2 [.int .i64 hx, .int .i64 hy] ∧ Below w.heap.size w wr)
                  case atStart => exact ⟨0, rfl, rfl, fun m hm => by omega, d1, d2, hB3⟩
                  case round =>
                    clear d1 d2 hB3
                    obtain ⟨j, hj, rfl, hno, d1, d2, hB3⟩ := hrel
                    by_cases hjt : j < n
                    · by_cases e1 : j = t
                      · have hbad : Hid (Pl.bad ps t j = false) := by show _ = _; rw [e1]; exact Pl.bad_self _ _
                        have hb1 : ((j : Int) == (t : Int)) = true := by simp [e1]
                        clear e1
                        go_wp2
                        go_roundg (n - (j + 1))
                        case measure => omega
                        case rel => exact ⟨j + 1, by omega, by go_num, (fun m hm => by
                          by_cases e : m = j
                          · rw [e]; exact hbad.out
                          · exact hno.out m (by omega)), d1, d2, hB3⟩
                      · have hb1 : ((j : Int) == (t : Int)) = false := by simp; omega
                        have E1 := Lib.hid e1
                        clear e1
                        have D1 := Lib.hid d1
                        have D2 := Lib.hid d2
                        clear d1 d2
                        go_wp2_with fail
                        refine (R1.out _).mono ?_
                        rintro e w4 ⟨rfl, rfl⟩
                        by_cases e2 : j = i1
                        · have hbad : Hid (Pl.bad ps t j = false) := by
                            show _ = _
                            rw [Pl.bad_next hn.out E1.out (e2.trans hi1.symm), e2, hi2, Pl.at_of hg.out, Pl.at_of hh.out, Pl.at_of hq.out, H1'.out, H2'.out]; rfl
                          have hb2 : ((j : Int) == (i1 : Int)) = true := by simp [e2]
                          clear e2
                          go_wp2
                          go_roundg (n - (j + 1))
                          case measure => omega
                          case rel => exact ⟨j + 1, by omega, by go_num, (fun m hm => by
                            by_cases e : m = j
                            · rw [e]; exact hbad.out
                            · exact hno.out m (by omega)), D1.out, D2.out, hB3⟩
                        · have hb2 : ((j : Int) == (i1 : Int)) = false := by simp; omega
                          have E2 := Lib.hid e2
                          clear e2
                          have hnj := fun w => rnextW (some ⟨b, off, none⟩) n cap j w hjt (by omega)
                          obtain ⟨j1, hj1⟩ : ∃ i, nxI n j = i := ⟨_, rfl⟩
                          rw [hj1] at hnj
                          have HNJ := Lib.hid hnj
                          have hj1n : j1 < n := by rw [← hj1]; exact Nat.mod_lt _ (by omega)
                          clear hnj
                          go_wp2_with fail
                          refine (HNJ.out _).mono ?_
                          rintro e w5 ⟨rfl, rfl⟩
                          by_cases e3 : j1 = t
                          · have hbad : Hid (Pl.bad ps t j = false) := Pl.bad_prev hn.out E1.out (by rw [hi1]; exact E2.out) (hj1.trans e3)
                            have hb3 : ((j1 : Int) == (t : Int)) = true := by simp [e3]
                            clear e3
                            go_wp2
                            go_roundg (n - (j + 1))
                            case measure => omega
                            case rel => exact ⟨j + 1, by omega, by go_num, (fun m hm => by
                              by_cases e : m = j
                              · rw [e]; exact hbad.out
                              · exact hno.out m (by omega)), D1.out, D2.out, hB3⟩
                          · have hb3 : ((j1 : Int) == (t : Int)) = false := by simp; omega
                            obtain ⟨⟨ux, uy⟩, hu⟩ : ∃ g, Hid (ps[j]? = some g) := ⟨ps[j]'(by have := hn.out; omega), by simp [Hid]⟩
                            obtain ⟨⟨vx, vy⟩, hv⟩ : ∃ g, Hid (ps[j1]? = some g) := ⟨ps[j1]'(by have := hn.out; omega), by simp [Hid]⟩
                            have Pu := Lib.hid (List.all_eq_true.1 hP.out _ (List.mem_of_getElem? hu.out))
                            have Pv := Lib.hid (List.all_eq_true.1 hP.out _ (List.mem_of_getElem? hv.out))
                            have hbf := Lib.hid (show Pl.bad ps t j = Pl.meets (gx, gy) (hx, hy) (ux, uy) (vx, vy) by
                              rw [Pl.bad_far hn.out E1.out (by rw [hi1]; exact E2.out) (by rw [hj1]; exact e3), hi1, hj1, Pl.at_of hg.out, Pl.at_of hh.out, Pl.at_of hu.out, Pl.at_of hv.out])
                            clear e3
                            obtain ⟨b2, off2, hbb, hbl, hc0, hc1⟩ := rd_p2 (HA.out.below hB3 (Nat.le_refl _)) hu.out
                            obtain ⟨rfl, rfl⟩ : b = b2 ∧ off = off2 := by simpa using hbb
                            clear hbb
                            obtain ⟨b3, off3, hbb, _, hc2, hc3⟩ := rd_p2 (HA.out.below hB3 (Nat.le_refl _)) hv.out
                            obtain ⟨rfl, rfl⟩ : b = b3 ∧ off = off3 := by simpa using hbb
                            clear hbb
                            have hx0 := Aft.cell D1.out
                            have hx1 := Aft.cell D2.out
                            have hx2 := fun x : Aft wr => (Aft.old x hbl _).trans hc0
                            have hx3 := fun x : Aft wr => (Aft.old x hbl _).trans hc1
                            have hx4 := fun x : Aft wr => (Aft.old x hbl _).trans hc2
                            have hx5 := fun x : Aft wr => (Aft.old x hbl _).trans hc3
                            have HM := Lib.hid (fun w => rmeetW gx gy hx hy ux uy vx vy w Pg.out Ph.out Pu.out Pv.out)
                            cases hmt : Pl.meets (gx, gy) (hx, hy) (ux, uy) (vx, vy)
                            · have HM' := Lib.hid (fun w => cBB hmt (HM.out w))
                              have hbad := Lib.hid (hbf.out.trans hmt)
                              clear hmt HM hbf
                              go_wp2
                              refine wp_region_aft (by kernel_rfl) (by kernel_rfl) ?_; (repeat (go_big_quiet_step ((first | (go_at_call 29; with_reducible exact aft_same (HNJ.out _)) | (go_at_call 31; with_reducible exact aft_of (HM'.out _)))))); refine wpQuiet_nil ?_; rintro w6 ⟨⟨_, hb6⟩, rfl⟩
                              have d1 := D1.out.below hb6 D1.out.lt
                              have d2 := D2.out.below hb6 D2.out.lt
                              have hB6 := hB3.trans (hb6.mono hB3.size)
                              clear hx0 hx1 hx2 hx3 hx4 hx5 hc0 hc1 hc2 hc3 hbl D1 D2 hB3 hb6
                              go_wp2
                              go_roundg (n - (j + 1))
                              case measure => omega
                              case rel => exact ⟨j + 1, by omega, by go_num, (fun m hm => by
                                by_cases e : m = j
                                · rw [e]; exact hbad.out
                                · exact hno.out m (by omega)), d1, d2, hB6⟩
                            · have HM' := Lib.hid (fun w => cBB hmt (HM.out w))
                              have hnox := Lib.hid (Pl.no_bad (by have := hn.out; omega) (by have := hn.out; omega) (hbf.out.trans hmt))
                              clear hmt HM hbf
                              go_wp2
                              refine wp_region_aft (by kernel_rfl) (by kernel_rfl) ?_; (repeat (go_big_quiet_step ((first | (go_at_call 29; with_reducible exact aft_same (HNJ.out _)) | (go_at_call 31; with_reducible exact aft_of (HM'.out _)))))); refine wpQuiet_nil ?_; rintro w6 ⟨⟨_, hb6⟩, rfl⟩
                              go_wp2
                              go_ret
                              exact ⟨_, rfl, Pl.val20 hnox.out, hB3.trans (hb6.mono hB3.size)⟩
                    · have hI2' : Hid (Pl.I2 ps (t + 1)) := fun i hi m hm => by
                        by_cases e : i = t
                        · subst e; exact hno.out m (by have := hn.out; omega)
                        · exact hI2.out i (by omega) m hm
                      clear hno hI2
                      go_wp2
                      go_roundg (n - (t + 1))
                      case measure => omega
                      case rel => exact ⟨t + 1, by omega, by go_num, hI2', hB3⟩
                · rintro e w3 ⟨rfl, hb3⟩
                  have hnox := Lib.hid (Pl.no_bad (ps := ps) (i := t) (k := i1) (by have := hn.out; omega) (by have := hn.out; have := hN.out; omega) (by
                    have hne : ¬ i1 = t := by
                      intro e
                      unfold nxI at hi1
                      rcases Nat.lt_or_ge (t + 1) n with c | c
                      · rw [Nat.mod_eq_of_lt c] at hi1; omega
                      · rw [show t + 1 = n by omega, Nat.mod_self] at hi1; omega
                    rw [Pl.bad_next hn.out hne hi1.symm, hi2, Pl.at_of hg.out, Pl.at_of hh.out, Pl.at_of hq.out, hs2]; simp))
                  clear hs2
                  go_wp2
                  go_ret
                  exact ⟨_, rfl, Pl.val20 hnox.out, by (repeat' (first | (with_reducible exact Below.refl _ _) | (with_reducible assumption) | (with_reducible refine Below.drew ?_) | (with_reducible refine below_drewN ?_ _) | (with_reducible refine Below.setCell ?_ ?_ _) | (with_reducible refine Below.alloc ?_ ?_ _) | (refine Below.trans ?_ (Below.mono (by with_reducible assumption) ?_)) | omega | (exact Below.size (by with_reducible assumption)) | (simp; done) | (simp; omega)))⟩
              · rintro e w2 ⟨rfl, hb2⟩
                have hnox := Lib.hid (Pl.no_bad (ps := ps) (i := t) (k := i1) (by have := hn.out; omega) (by have := hn.out; have := hN.out; omega) (by
                  have hne : ¬ i1 = t := by
                    intro e
                    unfold nxI at hi1
                    rcases Nat.lt_or_ge (t + 1) n with c | c
                    · rw [Nat.mod_eq_of_lt c] at hi1; omega
                    · rw [show t + 1 = n by omega, Nat.mod_self] at hi1; omega
                  rw [Pl.bad_next hn.out hne hi1.symm, hi2, Pl.at_of hg.out, Pl.at_of hh.out, Pl.at_of hq.out, hs1]; rfl))
                clear hs1
                go_wp2
                go_ret
                exact ⟨_, rfl, Pl.val20 hnox.out, by (repeat' (first | (with_reducible exact Below.refl _ _) | (with_reducible assumption) | (with_reducible refine Below.drew ?_) | (with_reducible refine below_drewN ?_ _) | (with_reducible refine Below.setCell ?_ ?_ _) | (with_reducible refine Below.alloc ?_ ?_ _) | (refine Below.trans ?_ (Below.mono (by with_reducible assumption) ?_)) | omega | (exact Below.size (by with_reducible assumption)) | (simp; done) | (simp; omega)))⟩
          · have hOK : Hid (Pl.ok ps = true) := Pl.ok_of (by have := H1.out; rwa [hn.out] at this) hI'.out (by have := hI2.out; rwa [show t = ps.length by have := hn.out; omega] at this)
            go_wp2
            go_ret
            exact ⟨_, rfl, Pl.val0 hOK.out, hbw⟩
theorem rCheckW (A : Option Addr) (ps : List P2) (n cap : Nat) (w : World) (hA : Rd 2 w A (ps.map ptrow)) (hn : Hid (n = ps.length)) (hlen : n ≤ 9223372036854775807) :
    Calls Try.prog 8 #[.slice A n cap] w fun e w' => ∃ v : Int, e = .returned (.int .i64 v) ∧ Hid (v = 0 → Pl.ok ps = true) ∧ Below w.heap.size w w' := by
  refine (rCheckV A ps n cap w hA hn hlen).mono ?_
  rintro e w' ⟨v, he, hv, hb⟩
  refine ⟨v, he, fun h0 => ?_, hb⟩
  exact Pl.rcv_0.1 (hv.out.symm.trans h0)
theorem rCheckE (A : Option Addr) (ps : List P2) (n cap : Nat) (w : World) (hA : Rd 2 w A (ps.map ptrow)) (hn : Hid (n = ps.length)) (hlen : n ≤ 9223372036854775807) :
    Calls Try.prog 8 #[.slice A n cap] w fun e w' => e = .returned (.int .i64 (Pl.rcv ps)) ∧ Below w.heap.size w w' := by
  refine (rCheckV A ps n cap w hA hn hlen).mono ?_
  rintro e w' ⟨v, he, hv, hb⟩
  rw [← hv.out]
  exact ⟨he, hb⟩
end Go.Proofs.Ytgmhelclofnpkaa
