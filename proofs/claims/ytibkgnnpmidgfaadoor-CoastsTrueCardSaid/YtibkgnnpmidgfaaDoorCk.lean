/- Walks: fewest: how many reports are wrong at the least. -/
import Derived.Test.YtibkgnnpmidgfaaDoorCj
namespace Go.Proofs.YtibkgnnpmidgfaaDoor
open Go.RowKit Go.Maps

/-- The least number of wrong reports of a pair of dividers. -/
def minTo (B : List Pt) (R : List Rep) (i : Nat) (lo : Int) : Nat → Nat
  | 0 => 8
  | k + 1 => min (minTo B R i lo k) (wrongD B R i (lo + k))
theorem minTo_succ (B : List Pt) (R : List Rep) (i : Nat) (lo : Int) (k : Nat) : minTo B R i lo (k + 1) = min (minTo B R i lo k) (wrongD B R i (lo + k)) := rfl
def minW (B : List Pt) (R : List Rep) (i : Nat) (s : Pt) : Nat := minTo B R i s.1 (s.2 - s.1 + 1).toNat
theorem minTo_le (B : List Pt) (R : List Rep) (i : Nat) (lo : Int) : ∀ k, minTo B R i lo k ≤ 8 ∧ ∀ j, j < k → minTo B R i lo k ≤ wrongD B R i (lo + j)
  | 0 => ⟨Nat.le_refl _, fun j h => by omega⟩
  | k + 1 => by
    obtain ⟨h1, h2⟩ := minTo_le B R i lo k
    refine ⟨by rw [minTo_succ]; omega, fun j hj => ?_⟩
    by_cases e : j = k
    · subst e; rw [minTo_succ]; omega
    · have := h2 j (by omega); rw [minTo_succ]; omega
theorem minTo_at (B : List Pt) (R : List Rep) (i : Nat) (lo : Int) : ∀ k, minTo B R i lo k = 8 ∨ ∃ j, j < k ∧ minTo B R i lo k = wrongD B R i (lo + j)
  | 0 => Or.inl rfl
  | k + 1 => by
    by_cases h : minTo B R i lo k ≤ wrongD B R i (lo + k)
    · have e : minTo B R i lo (k + 1) = minTo B R i lo k := by rw [minTo_succ]; omega
      rcases minTo_at B R i lo k with h1 | ⟨j, h1, h2⟩
      · exact Or.inl (by rw [e, h1])
      · exact Or.inr ⟨j, by omega, by rw [e, h2]⟩
    · exact Or.inr ⟨k, by omega, by rw [minTo_succ]; omega⟩
theorem isMin_minW {B : List Pt} {R : List Rep} {i : Nat} {s : Pt} {m : Int} (h : IsMin (pairF B R i s) m) : m = minW B R i s := by
  obtain ⟨h1, h2⟩ := minTo_le B R i s.1 (s.2 - s.1 + 1).toNat
  have h3 := minTo_at B R i s.1 (s.2 - s.1 + 1).toNat
  unfold minW
  have hle : m ≤ minTo B R i s.1 (s.2 - s.1 + 1).toNat := by
    rcases h3 with h3 | ⟨j, h4, h5⟩
    · rw [h3]; exact h.a
    · rw [h5]
      exact h.b (s.1 + j) _ (by unfold pairF; rw [if_pos (by omega)])
  rcases h.c with h3 | ⟨x, hx⟩
  · omega
  · unfold pairF at hx
    split at hx
    · rename_i hx2
      have := h2 (x - s.1).toNat (by omega)
      rw [show s.1 + ((x - s.1).toNat : Int) = x by omega] at this
      simp at hx
      omega
    · cases hx
def sAt (D : List Pt) (i : Nat) : Pt := D.getD i (0, 0)
/-- How many reports are wrong at the least, of the first k pairs of dividers but for some. -/
def fewS (B D : List Pt) (R : List Rep) (but : List Int) : Nat → Nat
  | 0 => 0
  | k + 1 => fewS B D R but k + if (k : Int) ∈ but then 0 else minW B R k (sAt D k)
theorem fewS_succ (B D : List Pt) (R : List Rep) (but : List Int) (k : Nat) : fewS B D R but (k + 1) = fewS B D R but k + if (k : Int) ∈ but then 0 else minW B R k (sAt D k) := rfl
theorem minW_le (B : List Pt) (R : List Rep) (i : Nat) (s : Pt) : minW B R i s ≤ 8 := (minTo_le B R i s.1 _).1
theorem fewS_le (B D : List Pt) (R : List Rep) (but : List Int) : ∀ k, fewS B D R but k ≤ 8 * k
  | 0 => by unfold fewS; omega
  | k + 1 => by
    have := fewS_le B D R but k
    have := minW_le B R k (sAt D k)
    unfold fewS; split <;> omega
theorem Chart.below {w w' : World} {cb : Nat} {A0 A1 A2 : Option Addr} {n0 n1 n2 c0 c1 c2 : Nat} {cw : Int} {B D : List Pt} {R : List Rep} {b : Nat} (h : Chart w cb A0 A1 A2 n0 n1 n2 c0 c1 c2 cw B D R) (k : Below b w w') (hb : w.heap.size ≤ b) : Chart w' cb A0 A1 A2 n0 n1 n2 c0 c1 c2 cw B D R := by
  obtain ⟨PA, pc, bs, h1, h2, h3, h4⟩ := h.ex
  exact ⟨PA, pc, bs, h1.below k (Nat.lt_of_lt_of_le h1.lt hb), h2.below k hb, h3, h4.below k hb⟩
theorem rd_map {w : World} {A : Option Addr} {bs : List Nat} (h : Rd 1 w A (bs.map mrow)) {i b : Nat} (hi : bs[i]? = some b) :
    ∃ c off, A = some ⟨c, off, none⟩ ∧ c < w.heap.size ∧ w.cell? ⟨c, off + i, none⟩ = some (.map (some b)) := by
  obtain ⟨c, off, e, hb, hc⟩ := Rd.elem h (i := i) (r := mrow b) (by simp [hi])
  have := hc 0 (.map (some b)) rfl
  exact ⟨c, off, e, hb, by simpa using this⟩

set_option maxRecDepth 100000 in
set_option maxHeartbeats 4000000 in
theorem fewest76 (cb : Nat) (A0 A1 A2 : Option Addr) (n0 n1 n2 c0 c1 c2 : Nat) (cw : Int) (B D : List Pt) (R : List Rep) (A : Option Addr) (bl : List Int) (bn bc : Nat) (w : World) (hc : Chart w cb A0 A1 A2 n0 n1 n2 c0 c1 c2 cw B D R) (hA : RdI w A bl) (hbn : Hid (bn = bl.length)) (hbl : bn ≤ 1000) (hn1 : n1 ≤ 4) :
    Calls Tryd.prog 76 #[.pointer (some ⟨cb, 0, none⟩), .slice A bn bc] w fun e w' => e = .returned (.int .i64 (fewS B D R bl n1 : Nat)) ∧ Below w.heap.size w w' := by
  obtain ⟨PA, pc, bs, h1, h2, h3, h4⟩ := hc.ex
  have HA := Lib.hid hA
  have H2 := Lib.hid h2
  have H4 := Lib.hid h4
  have H3 := Lib.hid h3
  clear hA h2 h4 h3 hc
  obtain ⟨l1, k1, f1⟩ := h1
  go_enter Tryd.func76, Tryd.ntmps76
  go_wp2
  go_step3
  go_wp2
  go_step3
  go_wp2
  go_loopg [5, 15] n1 (fun K n y wr => ∃ k : Nat, K + k = n1 ∧ y = .int .i64 k ∧ n = .int .i64 (fewS B D R bl k : Nat) ∧ Below w.heap.size w wr)
  case atStart => exact ⟨0, rfl, rfl, rfl, Below.refl _ _⟩
  case round =>
    obtain ⟨k, hk, rfl, rfl, hbw⟩ := hrel
    by_cases hlt : k < n1
    · obtain ⟨b, hb⟩ : ∃ b, Hid (bs[k]? = some b) := ⟨bs[k]'(by have := H3.out; omega), by simp [Hid]⟩
      obtain ⟨s, hs, hm⟩ := H4.out k b hb.out
      have hsk : Hid (sAt D k = s) := by show _ = _; unfold sAt; rw [List.getD_eq_getElem?_getD, hs]; rfl
      have hm' := hm.below hbw hm.lt
      have HM := Lib.hid hm'
      have hfl := fewS_le B D R bl k
      obtain ⟨c, off, rfl, hcl, hcc⟩ := rd_map (Rd.below H2.out hbw (Nat.le_refl _)) hb.out
      clear hs hm hm'
      obtain ⟨wo, rfl⟩ : ∃ wo : World, wo = wr := ⟨_, rfl⟩
      go_wp2_with fail
      go_loopg [22] bn (fun K y wr => ∃ i : Nat, K + i = bn ∧ y = .int .i64 i ∧ Hid ((k : Int) ∉ bl.take i) ∧ wr = wo)
      case atStart => exact ⟨0, rfl, rfl, by simp [Hid], rfl⟩
      case round =>
        obtain ⟨i, hi, rfl, hno, rfl⟩ := hrel
        by_cases hit : i < bn
        · obtain ⟨x, hx⟩ : ∃ x, Hid (bl[i]? = some x) := ⟨bl[i]'(by have := hbn.out; omega), by simp [Hid]⟩
          obtain ⟨b3, off3, rfl, hb3, hc3⟩ := (HA.out.below hbw (Nat.le_refl _)).elem hx.out
          by_cases hxk : x = (k : Int)
          · have hxb : (x == (k : Int)) = true := by simp [hxk]
            have hin : Hid (fewS B D R bl (k + 1) = fewS B D R bl k) := by
              show _ = _
              rw [fewS_succ, if_pos (by rw [← hxk]; exact List.mem_of_getElem? hx.out)]; rfl
            have hxk' := Lib.hid hxk
            clear hxk
            go_wp2
            go_roundg (n1 - (k + 1))
            case measure => omega
            case rel => exact ⟨k + 1, by omega, by go_num, by rw [hin.out], by (repeat' (first | (with_reducible exact Below.refl _ _) | (with_reducible assumption) | (with_reducible refine Below.drew ?_) | (with_reducible refine below_drewN ?_ _) | (with_reducible refine Below.setCell ?_ ?_ _) | (with_reducible refine Below.alloc ?_ ?_ _) | (refine Below.trans ?_ (Below.mono (by with_reducible assumption) ?_)) | omega | (exact Below.size (by with_reducible assumption)) | (simp; done) | (simp; omega)))⟩
          · have hxb : (x == (k : Int)) = false := by simp [hxk]
            have hno2 : Hid ((k : Int) ∉ bl.take (i + 1)) := by
              show (k : Int) ∉ _
              rw [take_snoc hx.out, List.mem_append]
              rintro (h | h)
              · exact hno.out h
              · simp only [List.mem_singleton] at h
                exact hxk h.symm
            have hxk' := Lib.hid hxk
            clear hxk
            go_wp2
            go_roundg (bn - (i + 1))
            case measure => omega
            case rel => exact ⟨i + 1, by omega, by go_num, hno2, rfl⟩
        · have hni : Hid ((k : Int) ∉ bl) := by
            have h := hno.out
            rw [List.take_of_length_le (by have := hbn.out; omega)] at h
            exact h
          have hin : Hid (fewS B D R bl (k + 1) = fewS B D R bl k + minW B R k s) := by
            show _ = _
            rw [fewS_succ, if_neg hni.out, hsk.out]
          go_wp2_with fail
          refine (least99 b 1000 _ _ HM.out).mono ?_
          rintro e w1 ⟨m, hmin, rfl, hb1⟩
          have hmw := Lib.hid (isMin_minW hmin.out)
          have hml := minW_le B R k s
          obtain rfl := hmw.out
          go_wp2
          go_roundg (n1 - (k + 1))
          case measure => omega
          case rel => exact ⟨k + 1, by omega, by go_num, by rw [hin.out]; rfl, by (repeat' (first | (with_reducible exact Below.refl _ _) | (with_reducible assumption) | (with_reducible refine Below.drew ?_) | (with_reducible refine below_drewN ?_ _) | (with_reducible refine Below.setCell ?_ ?_ _) | (with_reducible refine Below.alloc ?_ ?_ _) | (refine Below.trans ?_ (Below.mono (by with_reducible assumption) ?_)) | omega | (exact Below.size (by with_reducible assumption)) | (simp; done) | (simp; omega)))⟩
    · have hkn : Hid (k = n1) := by show _ = _; omega
      go_wp2
      (try rw [Exit.noGoto_ret])
      go_ret
      exact ⟨ret_int (by rw [hkn.out]), hbw⟩

end Go.Proofs.YtibkgnnpmidgfaaDoor
