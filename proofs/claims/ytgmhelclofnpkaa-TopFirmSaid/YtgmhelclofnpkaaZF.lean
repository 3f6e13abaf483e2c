/- TopMended: the example, the plain law, the walk. -/
import Derived.Test.YtgmhelclofnpkaaZE
import Derived.Test.YtgmhelclofnpkaaQm
import Derived.Test.YtgmhelclofnpkaaQq
namespace Go.Proofs.Ytgmhelclofnpkaa
open Go.RowKit Go.Maps
def exD : Ds := ⟨[(0, 0), (4, 0), (4, 4), (0, 4)], [0, 1, 1, 1], 1, ⟨100, 0, 0, 0, 0, 20, 40, 0⟩, [⟨1, 1, 0, 10, 46⟩, ⟨-1, 1, 0, 50, 14⟩]⟩
theorem exD_ok : Dp.Ok exD := ⟨by kernel_rfl, by decide, rfl, by decide, by decide, ⟨by constructor <;> decide, by decide, fun x hx => by
  simp only [exD, List.mem_cons, List.not_mem_nil, or_false] at hx
  rcases hx with rfl | rfl <;> constructor <;> decide⟩⟩
theorem exD_sty : Dp.Sty exD [(0, 0), (5, 0), (4, 4), (0, 4)] 0 := by
  refine ⟨⟨rfl, rfl, fun i _ hi => ?_⟩, by kernel_rfl, ?_, ?_⟩
  · have hi4 : i < 4 := hi
    have : i = 0 ∨ i = 1 ∨ i = 2 ∨ i = 3 := by omega
    rcases this with rfl | rfl | rfl | rfl <;> unfold Dp.inOff <;> decide
  · unfold Dp.guess; decide
  · unfold Dp.inSk; decide
theorem exD_many : manyS (Dp.stK exD [(0, 0), (5, 0), (4, 4), (0, 4)] 0) = 1 := by kernel_rfl
theorem exD_wm : Dp.pc (Dp.wm exD 32 0) = 2 := by kernel_rfl
theorem exD_ar : Dp.ar exD [(0, 0), (4, 0), (4, 4), (0, 4)] = 32 := by kernel_rfl
namespace Pl
theorem ext_at {f g : List P2} (hl : f.length = g.length) (h : ∀ i, i < f.length → at' f i = at' g i) : f = g := by
  refine List.ext_getElem hl fun i h1 h2 => ?_
  have := h i h1
  unfold at' at this
  simpa [List.getD, h1, h2] using this
end Pl
namespace Dp
theorem mk_same {d : Ds} {f : List P2} (hl : f.length = d.P.length) (h8 : f.length ≤ 8) (h : pc (mk d f) = 0) : f = d.P := by
  unfold mk at h
  rw [pc_mask _ h8] at h
  have h2 := List.length_eq_zero_iff.1 h
  rw [List.filter_eq_nil_iff] at h2
  refine Pl.ext_at hl fun i hi => ?_
  have := h2 i (List.mem_range.2 hi)
  simpa using this
end Dp
theorem exD_few {n er : Int} (h : Dp.FwN exD (fun _ => true) n er) : n = 1 ∧ er = 0 := by
  rcases h with ⟨_, h⟩ | ⟨rfl, ⟨f, sk, hs, _, rfl⟩, h⟩
  · have := h _ _ exD_sty; cases this
  · refine ⟨?_, rfl⟩
    have h1 := h _ _ exD_sty rfl
    rw [exD_many] at h1
    by_cases h0 : manyS (Dp.stK exD f sk) = 0
    · exfalso
      unfold manyS many at h0
      have e1 : Dp.pc (Dp.mk exD f) = 0 := by simp only [Dp.stK] at h0; omega
      have e2 : Dp.pc (Dp.wm exD (Dp.ar exD f) sk) = 0 := by simp only [Dp.stK] at h0; omega
      have hf := Dp.mk_same hs.1.1 (by rw [hs.1.1]; decide) e1
      have hsk : sk = 0 := by
        have := hs.2.2.2
        unfold Dp.inSk at this
        have e : exD.h.skew = 0 := rfl
        omega
      subst hsk
      rw [hf, show exD.P = [(0, 0), (4, 0), (4, 4), (0, 4)] from rfl, exD_ar, exD_wm] at e2
      omega
    · unfold manyS many at h0 h1 ⊢
      omega
set_option maxHeartbeats 2000000 in
theorem ex08W (w : World) : Calls Try.prog 66 #[] w fun e w' => ∃ (A B C : Option Addr) (cA cB cC : Nat), e = .returned (dsV A B C cA cB cC exD) ∧ Rd 2 w' A (exD.P.map ptrow) ∧ RdI w' B exD.O ∧ Rd 5 w' C (exD.l.map wkrow) ∧ Below w.heap.size w w' := by
  go_enter Try.func66, Try.ntmps66
  go_wp2
  refine bodyPost_ret (results_cell1 (B := w.heap.size) (vs := [.slice (some ⟨w.heap.size + 1, 0, none⟩) 4 4, .slice (some ⟨w.heap.size + 1 + 1, 0, none⟩) 4 4, .int .i64 1, .int .i64 100, .int .i64 0, .int .i64 0, .int .i64 0, .int .i64 0, .int .i64 20, .int .i64 40, .int .i64 0, .slice (some ⟨w.heap.size + 1 + 1 + 1, 0, none⟩) 2 2]) rfl rfl ((((Own.new' _ _ rfl rfl).alloc _).alloc _).alloc _) (by kernel_rfl) (by kernel_rfl)) rfl ?_
  refine ⟨some ⟨w.heap.size + 1, 0, none⟩, some ⟨w.heap.size + 1 + 1, 0, none⟩, some ⟨w.heap.size + 1 + 1 + 1, 0, none⟩, 4, 4, 2, rfl, ?_, ?_, ?_, by (repeat' (first | (with_reducible exact Below.refl _ _) | (with_reducible assumption) | (with_reducible refine Below.drew ?_) | (with_reducible refine below_drewN ?_ _) | (with_reducible refine Below.setCell ?_ ?_ _) | (with_reducible refine Below.alloc ?_ ?_ _) | (refine Below.trans ?_ (Below.mono (by with_reducible assumption) ?_)) | omega | (exact Below.size (by with_reducible assumption)) | (simp; done) | (simp; omega)))⟩
  · exact Own.rd' (vs := [.int .i64 0, .int .i64 0, .int .i64 4, .int .i64 0, .int .i64 4, .int .i64 4, .int .i64 0, .int .i64 4]) (((Own.new' _ _ (by simp) rfl).alloc _).alloc _) rfl (by simp [exD, ptrow])
  · exact Own.rd' (vs := [.int .i64 0, .int .i64 1, .int .i64 1, .int .i64 1]) ((Own.new' _ _ (by simp) rfl).alloc _) rfl (by simp [exD, irow])
  · exact Own.rd' (vs := [.int .i64 1, .int .i64 1, .int .i64 0, .int .i64 10, .int .i64 46, .int .i64 (-1), .int .i64 1, .int .i64 0, .int .i64 50, .int .i64 14]) (Own.new' _ _ (by simp) rfl) rfl (by simp [exD, wkrow])
set_option maxHeartbeats 4000000 in
theorem wBoundW (A : Option Addr) (cap : Nat) (w : World) (hA : Rd 5 w A (exK.map wkrow)) : Calls Try.prog 67 #[whV exW, .slice A 2 cap] w fun e w' => e = .returned (.tuple #[.agg #[.int .i64 53, .int .i64 53], .int .i64 0]) ∧ Below w.heap.size w w' := by
  have HR := Lib.hid hA
  clear hA
  have hBa : Below w.heap.size w (((w.alloc (.cells #[.int .i64 100, .int .i64 0, .int .i64 0, .int .i64 2, .int .i64 0, .int .i64 40, .int .i64 60, .int .i64 0] 34))).alloc (.cells #[.int .i64 0, .int .i64 0] 32)) := by (repeat' (first | (with_reducible exact Below.refl _ _) | (with_reducible assumption) | (with_reducible refine Below.drew ?_) | (with_reducible refine below_drewN ?_ _) | (with_reducible refine Below.setCell ?_ ?_ _) | (with_reducible refine Below.alloc ?_ ?_ _) | (refine Below.trans ?_ (Below.mono (by with_reducible assumption) ?_)) | omega | (exact Below.size (by with_reducible assumption)) | (simp; done) | (simp; omega)))
  have oS : Own (((w.alloc (.cells #[.int .i64 100, .int .i64 0, .int .i64 0, .int .i64 2, .int .i64 0, .int .i64 40, .int .i64 60, .int .i64 0] 34))).alloc (.cells #[.int .i64 0, .int .i64 0] 32)) (w.heap.size + 1) [.int .i64 0, .int .i64 0] := Own.new' _ _ (by simp) rfl
  go_enter Try.func67, Try.ntmps67
  go_wp2_with fail
  refine (AreasW exW A exK 2 cap _ (HR.out.below hBa (Nat.le_refl _)) rfl exW_v (show Wl.trs exW exK ≠ [] by rw [exW_trs]; simp)).mono ?_
  rintro e w2 ⟨A2, cap2, ks, rfl, hks, hK, hb2⟩
  obtain rfl : ks = [53] := keys_one (by have := hK.out; rwa [exW_trs] at this)
  have hB2 := hBa.trans (hb2.mono hBa.size)
  have oS2 := oS.below hb2 oS.lt
  have OS := Lib.hid oS2
  clear hK hb2 hBa oS
  obtain ⟨b, off, rfl, hbl, hc⟩ := Rd.elem hks (i := 0) (r := irow 53) rfl
  have hc0 : w2.cell? ⟨b, off, none⟩ = some (.int .i64 53) := by simpa using hc 0 _ rfl
  clear hc
  obtain ⟨l0, c0, f0⟩ := oS2
  go_wp2
  go_region
  go_wp2
  refine bodyPost_ret (results_cell_t (B := w.heap.size + 1) (vs := [.int .i64 53, .int .i64 53]) rfl rfl (own_set2p OS.out _ _).drew (by kernel_rfl) (by kernel_rfl)) rfl ?_
  exact ⟨rfl, by (repeat' (first | (with_reducible exact Below.refl _ _) | (with_reducible assumption) | (with_reducible refine Below.drew ?_) | (with_reducible refine below_drewN ?_ _) | (with_reducible refine Below.setCell ?_ ?_ _) | (with_reducible refine Below.alloc ?_ ?_ _) | (refine Below.trans ?_ (Below.mono (by with_reducible assumption) ?_)) | omega | (exact Below.size (by with_reducible assumption)) | (simp; done) | (simp; omega)))⟩
set_option maxHeartbeats 4000000 in
theorem disputedW (w : World) : Calls Try.prog 21 #[] w fun e w' => e = .returned (.bool true) ∧ Below w.heap.size w w' := by
  go_enter Try.func21, Try.ntmps21
  go_wp2_with fail
  refine (ex08W _).mono ?_
  rintro e w1 ⟨A, B, C, cA, cB, cC, rfl, hA, hB, hC, hb1⟩
  have HA := Lib.hid hA
  have HB := Lib.hid hB
  have HC := Lib.hid hC
  clear hA hB hC
  go_wp2_with fail
  refine (dFewestW exD A B C cA cB cC _ exD_ok HA.out HB.out HC.out).mono ?_
  rintro e w2 ⟨n, er, rfl, hf, hb2⟩
  obtain ⟨rfl, rfl⟩ := exD_few hf.out
  have hB2 := hb1.trans (hb2.mono hb1.size)
  clear hb1 hb2 hf HA HB HC
  go_wp2_with fail
  refine (ex03W _).mono ?_
  rintro e w3 ⟨D, cap, rfl, hR, hb3⟩
  have HR := Lib.hid hR
  have hB3 := hB2.trans (hb3.mono hB2.size)
  clear hR hb3 hB2
  have hBa : Below w.heap.size w (w3.alloc (.cells #[.int .i64 100, .int .i64 0, .int .i64 0, .int .i64 2, .int .i64 0, .int .i64 40, .int .i64 60, .int .i64 0] 34)) := hB3.alloc hB3.size _
  have oW : Own (w3.alloc (.cells #[.int .i64 100, .int .i64 0, .int .i64 0, .int .i64 2, .int .i64 0, .int .i64 40, .int .i64 60, .int .i64 0] 34)) w3.heap.size (whC exW) := Own.new' _ _ rfl rfl
  obtain ⟨l0, c0, f0⟩ := oW
  go_wp2_with fail
  refine (wBoundW D cap _ (HR.out.below ((Below.refl _ w3).alloc (Nat.le_refl _) _) (Nat.le_refl _))).mono ?_
  rintro e w4 ⟨rfl, hb4⟩
  have hB4 := hBa.trans (hb4.mono hBa.size)
  have oS : Own (w4.alloc (.cells #[.int .i64 53, .int .i64 53] 32)) w4.heap.size [.int .i64 53, .int .i64 53] := Own.new' _ _ rfl rfl
  have hB5 : Below w.heap.size w (w4.alloc (.cells #[.int .i64 53, .int .i64 53] 32)) := hB4.alloc hB4.size _
  clear hb4 hBa l0 c0 f0 hB4
  obtain ⟨l0, c0, f0⟩ := oS
  go_wp2
  go_ret
  exact ⟨rfl, hB5⟩
end Go.Proofs.Ytgmhelclofnpkaa
namespace Go.Proofs.Ytgmhelclofnpkaa
open Go.RowKit Go.Maps

/-- The same wheel, of which no walk is wrong. -/
def Wl.h0 (h : Wh) : Wh := { h with wrong := 0 }
theorem Wl.h0_v {h : Wh} {l : List Wk} (k : WhV h l) : WhV (Wl.h0 h) l := ⟨{ k.k with wrong := by show (0 : Int) ≤ 0 ∧ (0 : Int) ≤ 8; omega }, k.n, fun x hx => { k.l x hx with }⟩
namespace Dp
theorem pc_zero {p : Nat → Bool} {k : Nat} (hk : k ≤ 8) : pc (maskTo p k) = 0 → maskTo p k = 0 := fun h => by
  rw [pc_mask p hk] at h
  have h2 := List.length_eq_zero_iff.1 h
  rw [List.filter_eq_nil_iff] at h2
  exact mask_0.2 fun i hi => by simpa using h2 i (List.mem_range.2 hi)
/-- A story of which no walk is wrong is a truth of the wheel. -/
theorem sty_trs {d : Ds} (hd : Ok d) {f : List P2} {sk : Int} (h : Sty d f sk) (h0 : wm d (ar d f) sk = 0) : (ar d f, sk) ∈ Wl.trs (Wl.h0 d.h) d.l := by
  refine List.mem_filter.2 ⟨allP_mem ⟨h.2.2.1, h.2.2.2⟩, ?_⟩
  have e := pc_wm hd.wh.n (ar d f) sk
  rw [h0, pc_0] at e
  have e2 : Wl.wrongsN (Wl.h0 d.h) d.l (ar d f, sk) = 0 := e.symm
  rw [e2]
  rfl
theorem trs_sp {h : Wh} {l : List Wk} {t : P2} (k : t ∈ Wl.trs h l) : h.lo ≤ t.1 ∧ t.1 ≤ h.hi := (allP_in (List.mem_filter.1 k).1).1
theorem sorted_len {lo : Int} : ∀ (ks : List Int) (hi : Int), ks.Pairwise (· < ·) → (∀ x ∈ ks, lo ≤ x ∧ x ≤ hi) → lo ≤ hi + 1 → (ks.length : Int) ≤ hi - lo + 1
  | [], hi, _, _, h => by simp; omega
  | a :: r, hi, hp, hx, h => by
    obtain ⟨h1, h2⟩ := List.pairwise_cons.1 hp
    have ha := hx a (by simp)
    have := sorted_len (lo := a + 1) r hi h2 (fun x hr => ⟨by have := h1 x hr; omega, (hx x (by simp [hr])).2⟩) (by omega)
    rw [List.length_cons]
    push_cast
    omega
end Dp
end Go.Proofs.Ytgmhelclofnpkaa
namespace Go.Proofs.Ytgmhelclofnpkaa
open Go.RowKit Go.Maps

theorem Dp.area_bd {f : List P2} (hf : Pl.ok f = true) : -800000 ≤ Pl.area f ∧ Pl.area f ≤ 800000 := by
  have hb : f.all Pl.isP = true ∧ f.length ≤ 10 := by
    unfold Pl.ok at hf
    simp only [Bool.and_eq_true, btw_iff] at hf
    exact ⟨hf.1.2, by omega⟩
  have := Pl.sumTo_bd hb.1 f.length (Nat.le_refl _)
  unfold Pl.area; omega
set_option maxRecDepth 100000 in
set_option maxHeartbeats 16000000 in
theorem mendedW (d : Ds) (A B C : Option Addr) (cA cB cC : Nat) (w : World) (hA : Rd 2 w A (d.P.map ptrow)) (hB : RdI w B d.O) (hC : Rd 5 w C (d.l.map wkrow)) (hl : d.P.length ≤ 9223372036854775807 ∧ d.O.length ≤ 9223372036854775807 ∧ d.l.length ≤ 9223372036854775807) :
    Calls Try.prog 5 #[dsV A B C cA cB cC d] w fun e w' => e = .returned (.bool true) ∧ Below w.heap.size w w' := by
  have HA := Lib.hid hA
  have HB := Lib.hid hB
  have HC := Lib.hid hC
  have HL := Lib.hid hl
  have o0 : Own (w.alloc (.cells #[.slice A d.P.length cA, .slice B d.O.length cB, .int .i64 d.u, .int .i64 d.h.full, .int .i64 d.h.read, .int .i64 d.h.slip, .int .i64 d.h.skew, .int .i64 d.h.circ, .int .i64 d.h.lo, .int .i64 d.h.hi, .int .i64 d.h.wrong, .slice C d.l.length cC] 56)) w.heap.size (dsC A B C cA cB cC d) := Own.new' _ _ rfl rfl
  have oB : Below w.heap.size w (w.alloc (.cells #[.slice A d.P.length cA, .slice B d.O.length cB, .int .i64 d.u, .int .i64 d.h.full, .int .i64 d.h.read, .int .i64 d.h.slip, .int .i64 d.h.skew, .int .i64 d.h.circ, .int .i64 d.h.lo, .int .i64 d.h.hi, .int .i64 d.h.wrong, .slice C d.l.length cC] 56)) := by (repeat' (first | (with_reducible exact Below.refl _ _) | (with_reducible assumption) | (with_reducible refine Below.drew ?_) | (with_reducible refine below_drewN ?_ _) | (with_reducible refine Below.setCell ?_ ?_ _) | (with_reducible refine Below.alloc ?_ ?_ _) | (refine Below.trans ?_ (Below.mono (by with_reducible assumption) ?_)) | omega | (exact Below.size (by with_reducible assumption)) | (simp; done) | (simp; omega)))
  have O0 := Lib.hid o0
  clear hA hB hC hl
  obtain ⟨l0, c0, f0⟩ := o0
  obtain ⟨v, h4⟩ : ∃ v, Dp.d8V d = v := ⟨_, rfl⟩
  have R4 := Lib.hid h4
  clear h4
  go_enter Try.func5, Try.ntmps5
  go_wp2_with fail
  refine (far08W d A B C cA cB cC _ (HA.out.below oB (Nat.le_refl _)) (show RdI _ B d.O from HB.out.below oB (Nat.le_refl _)) (HC.out.below oB (Nat.le_refl _)) HL.out).mono ?_
  rintro e w1 ⟨fv, rfl, hfar, hb1⟩
  have o1 := O0.out.below hb1 O0.out.lt
  have hB1 := oB.trans (hb1.mono oB.size)
  clear O0 l0 c0 f0 hb1 oB
  have O1 := Lib.hid o1
  rcases hfar.out with rfl | ⟨rfl, hfr⟩
  · clear hfar
    go_wp2_with fail
    refine (disputedW _).mono ?_
    rintro e w2 ⟨rfl, hb2⟩
    go_wp2
    go_ret
    exact ⟨rfl, hB1.trans (hb2.mono hB1.size)⟩
  have HFR := Lib.hid hfr
  clear hfar hfr
  obtain ⟨l0, c0, f0⟩ := o1
  go_wp2_with fail
  refine (cIB R4.out (d8CheckW d A B C cA cB cC _ (HA.out.below hB1 (Nat.le_refl _)) (show RdI _ B d.O from HB.out.below hB1 (Nat.le_refl _)) (HC.out.below hB1 (Nat.le_refl _)) HL.out)).mono ?_
  rintro e w2 ⟨rfl, hb2⟩
  have o2 := O1.out.below hb2 O1.out.lt
  have hB2 := hB1.trans (hb2.mono hB1.size)
  clear O1 l0 c0 f0 hb2 hB1
  by_cases h4 : v = 0
  case neg =>
    have hne : (v != 0) = true := by simpa using h4
    go_wp2_with fail
    refine (disputedW _).mono ?_
    rintro e w2 ⟨rfl, hb2⟩
    go_wp2
    go_ret
    exact ⟨rfl, hB2.trans (hb2.mono hB2.size)⟩
  subst h4
  have HD := Lib.hid (Dp.d8_ok R4.out)
  have hsp := HFR.out R4.out
  clear HFR R4
  obtain ⟨W3, hW3⟩ : ∃ W3, W3 = (w2.alloc (.cells #[.int .i64 d.h.full, .int .i64 d.h.read, .int .i64 d.h.slip, .int .i64 d.h.skew, .int .i64 d.h.circ, .int .i64 d.h.lo, .int .i64 d.h.hi, .int .i64 0] 34)) := ⟨_, rfl⟩
  have b3 : Below w2.heap.size w2 W3 := by rw [hW3]; (repeat' (first | (with_reducible exact Below.refl _ _) | (with_reducible assumption) | (with_reducible refine Below.drew ?_) | (with_reducible refine below_drewN ?_ _) | (with_reducible refine Below.setCell ?_ ?_ _) | (with_reducible refine Below.alloc ?_ ?_ _) | (refine Below.trans ?_ (Below.mono (by with_reducible assumption) ?_)) | omega | (exact Below.size (by with_reducible assumption)) | (simp; done) | (simp; omega)))
  have oW : Own W3 w2.heap.size (whC (Wl.h0 d.h)) := by
    rw [hW3]
    exact Own.new' _ _ rfl rfl
  have hB3 := hB2.trans (b3.mono hB2.size)
  have o3 := o2.below b3 o2.lt
  have O3 := Lib.hid o3
  have OW := Lib.hid oW
  have hne2 : w.heap.size ≠ w2.heap.size := by have := o2.lt; omega
  obtain ⟨l0, c0, f0⟩ := o2
  go_wp2_with fail
  rw [← hW3]
  clear hW3 l0 c0 f0 b3
  obtain ⟨l0, c0, f0⟩ := o3
  obtain ⟨l1, c1, f1⟩ := oW
  go_wp2_with fail
  refine (dMendW d A B C cA cB cC _ HD.out (HA.out.below hB3 (Nat.le_refl _)) (show RdI _ B d.O from HB.out.below hB3 (Nat.le_refl _)) (HC.out.below hB3 (Nat.le_refl _))).mono ?_
  rintro e w4 ⟨s, fv, er, rfl, hal, hb4⟩
  have o4 := O3.out.below hb4 O3.out.lt
  have p4 := OW.out.below hb4 OW.out.lt
  have hB4 := hB3.trans (hb4.mono hB3.size)
  have O4 := Lib.hid o4
  have P4 := Lib.hid p4
  have HAL := hal
  clear O3 OW l0 c0 f0 l1 c1 f1 hb4 hB3 hal
  obtain ⟨l0, c0, f0⟩ := o4
  obtain ⟨l1, c1, f1⟩ := p4
  by_cases htr : Wl.trs (Wl.h0 d.h) d.l = []
  · have HTR := Lib.hid htr
    clear htr
    obtain rfl : er = 3 := by
      rcases HAL.out with ⟨h, _⟩ | ⟨_, f, sk, b, cap, h2, h3, h4, _⟩
      · exact h
      · exfalso
        have h0 : Dp.wm d (Dp.ar d f) sk = 0 := by rw [h3] at h4; exact of_decide_eq_true h4
        have := Dp.sty_trs HD.out h2 h0
        rw [HTR.out] at this
        cases this
    go_wp2_with fail
    refine (AreasN (Wl.h0 d.h) C d.l d.l.length cC _ (HC.out.below hB4 (Nat.le_refl _)) rfl (Wl.h0_v HD.out.wh) HTR.out).mono ?_
    rintro e w5 ⟨rfl, hb5⟩
    have hB5 := hB4.trans (hb5.mono hB4.size)
    go_wp2_with fail
    refine (disputedW _).mono ?_
    rintro e w2 ⟨rfl, hb2⟩
    go_wp2
    go_ret
    exact ⟨rfl, hB5.trans (hb2.mono hB5.size)⟩
  have HTR := Lib.hid htr
  clear htr
  go_wp2_with fail
  refine (AreasW (Wl.h0 d.h) C d.l d.l.length cC _ (HC.out.below hB4 (Nat.le_refl _)) rfl (Wl.h0_v HD.out.wh) HTR.out).mono ?_
  rintro e w5 ⟨A5, cap5, ks, rfl, hks, hK, hb5⟩
  have o5 := O4.out.below hb5 O4.out.lt
  have hB5 := hB4.trans (hb5.mono hB4.size)
  have hks300 : ks.length ≤ 300 := by
    have h1 := Dp.sorted_len (lo := d.h.lo) ks d.h.hi hK.out.1 (fun x hx => by
      obtain ⟨t, ht, rfl⟩ := List.mem_map.1 ((hK.out.2 x).1 hx)
      exact Dp.trs_sp (h := Wl.h0 d.h) ht) (by have := HD.out.wh.k.hi; have := HD.out.wh.k.lo; omega)
    omega
  have HKS := Lib.hid hks
  rcases HAL.out with ⟨rfl, _⟩ | ⟨rfl, f, sk, b, cap, hst, hs, hwm, rfl, hrd, _⟩
  · clear HAL O4 P4 l0 c0 f0 l1 c1 f1
    go_wp2_with fail
    refine (disputedW _).mono ?_
    rintro e w2 ⟨rfl, hb2⟩
    go_wp2
    go_ret
    exact ⟨rfl, hB5.trans (hb2.mono hB5.size)⟩
  have hmem : Dp.ar d f ∈ ks := (hK.out.2 _).2 (List.mem_map.2 ⟨_, Dp.sty_trs HD.out hst (by rw [hs] at hwm; exact of_decide_eq_true hwm), rfl⟩)
  have HMEM := Lib.hid hmem
  have hfl : f.length ≤ 6 := by have := hst.1.1; have := HD.out.six; omega
  have HOK := Lib.hid hst.2.1
  have HRD := Lib.hid (hrd.below hb5 (Nat.le_refl _))
  have har := Dp.area_bd HOK.out
  clear HAL O4 P4 l0 c0 f0 l1 c1 f1 hmem hst hs hwm hrd hb5 hks hK
  obtain ⟨a, haa⟩ : ∃ a, Pl.area f = a := ⟨_, rfl⟩
  rw [haa] at har
  have HCT := Lib.hid (fun W (q : Rd 2 W (some ⟨b, 0, none⟩) (f.map ptrow)) => cTup (show (if Pl.ok f = true then Pl.area f else 0) = a by rw [HOK.out]; exact haa) (show (if Pl.ok f = true then (0 : Int) else 20) = 0 by rw [HOK.out]; rfl) (ctwW (some ⟨b, 0, none⟩) f.length cap f W q rfl (by omega)))
  go_wp2_with fail
  refine (HCT.out _ HRD.out).mono ?_
  rintro e w6 ⟨rfl, hb6⟩
  have o6 := o5.below hb6 o5.lt
  have hB6 := hB5.trans (hb6.mono hB5.size)
  have K6 := Lib.hid (show RdI w6 A5 ks from HKS.out.below hb6 (Nat.le_refl _))
  clear HKS HRD HCT hb6 hB5 o5
  obtain ⟨q, hq⟩ : ∃ q, (max a (-a)).tdiv d.u = q := ⟨_, rfl⟩
  have hqa : Dp.ar d f = q := by unfold Dp.ar; rw [haa]; exact hq
  have hqb := Dp.ar_bd HD.out.un HOK.out
  rw [hqa] at hqb HMEM
  have hu := HD.out.un
  have hwn : IntKind.i64.wrap (-a) = -a := IntWalk.i64_in _ (by omega)
  have hwq : IntKind.i64.wrap ((max a (-a)).tdiv d.u) = q := by rw [hq]; exact IntWalk.i64_in _ (by omega)
  have hu0 : (d.u == 0) = false := by simp; omega
  have O6 := Lib.hid o6
  clear haa hqa hq
  go_wp2_with fail
  go_loopg [10] ks.length (fun K i wr => ∃ k : Nat, K + k = ks.length ∧ i = .int .i64 k ∧ Hid (∀ j, j < k → ks[j]? ≠ some q) ∧ Below w.heap.size w wr ∧ RdI wr A5 ks ∧ Own wr w.heap.size (dsC A B C cA cB cC d))
  case atStart => exact ⟨0, rfl, rfl, fun j hj => by omega, hB6, K6.out, O6.out⟩
  case round =>
    clear hB6 K6 O6 o6
    obtain ⟨k, hk, rfl, hI, hbw, hks, ho⟩ := hrel
    have HKS := Lib.hid hks
    have HO := Lib.hid ho
    obtain ⟨l0, c0, f0⟩ := ho
    by_cases hlt : k < ks.length
    · obtain ⟨g, hg⟩ : ∃ g, Hid (ks[k]? = some g) := ⟨ks[k], by simp [Hid, hlt]⟩
      obtain ⟨b5, off, rfl, hbl, hc0⟩ := RdI.elem hks hg.out
      clear hks
      by_cases he : g = q
      · subst he
        go_wp2
        go_region
        go_wp2_with fail
        refine (disputedW _).mono ?_
        rintro e w2 ⟨rfl, hb2⟩
        go_wp2
        go_ret
        exact ⟨rfl, by (repeat' (first | (with_reducible exact Below.refl _ _) | (with_reducible assumption) | (with_reducible refine Below.drew ?_) | (with_reducible refine below_drewN ?_ _) | (with_reducible refine Below.setCell ?_ ?_ _) | (with_reducible refine Below.alloc ?_ ?_ _) | (refine Below.trans ?_ (Below.mono (by with_reducible assumption) ?_)) | omega | (exact Below.size (by with_reducible assumption)) | (simp; done) | (simp; omega)))⟩
      · have hE : (g == q) = false := by simpa using he
        go_wp2
        go_region
        go_wp2
        go_roundg (ks.length - (k + 1))
        case measure => omega
        case rel =>
          refine ⟨k + 1, by omega, by go_num, fun j hj => ?_, by (repeat' (first | (with_reducible exact Below.refl _ _) | (with_reducible assumption) | (with_reducible refine Below.drew ?_) | (with_reducible refine below_drewN ?_ _) | (with_reducible refine Below.setCell ?_ ?_ _) | (with_reducible refine Below.alloc ?_ ?_ _) | (refine Below.trans ?_ (Below.mono (by with_reducible assumption) ?_)) | omega | (exact Below.size (by with_reducible assumption)) | (simp; done) | (simp; omega))), ?_, ?_⟩
          · by_cases e : j = k
            · subst e; rw [hg.out]; simpa using he
            · exact hI.out j (by omega)
          · exact HKS.out.below (B := wr.heap.size) (by (repeat' (first | (with_reducible exact Below.refl _ _) | (with_reducible assumption) | (with_reducible refine Below.drew ?_) | (with_reducible refine below_drewN ?_ _) | (with_reducible refine Below.setCell ?_ ?_ _) | (with_reducible refine Below.alloc ?_ ?_ _) | (refine Below.trans ?_ (Below.mono (by with_reducible assumption) ?_)) | omega | (exact Below.size (by with_reducible assumption)) | (simp; done) | (simp; omega)))) (Nat.le_refl _)
          · have := HO.out; (repeat' (first | (with_reducible assumption) | (with_reducible exact Own.mk (by with_reducible assumption) (by with_reducible assumption) (by with_reducible assumption)) | (with_reducible refine Own.new' _ _ (by first | rfl | (simp; done)) rfl) | (with_reducible refine Own.drew ?_) | (with_reducible refine Own.drewN ?_ _) | (with_reducible refine Own.alloc ?_ _) | (with_reducible refine Own.setOther ?_ ?_ _) | (refine Own.below ?_ (by with_reducible assumption) ?_) | omega | (simp; done) | (simp; omega)))
    · exfalso
      obtain ⟨j, hj, e⟩ := List.getElem_of_mem HMEM.out
      exact hI.out j (by omega) (by rw [List.getElem?_eq_getElem hj, e])
end Go.Proofs.Ytgmhelclofnpkaa
