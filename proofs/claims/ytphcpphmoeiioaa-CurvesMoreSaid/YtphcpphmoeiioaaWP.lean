/- Walks: Best. -/
import Derived.Test.YtphcpphmoeiioaaWO
namespace Go.Proofs.Ytphcpphmoeiioaa
open Go.RowKit Go.Maps

theorem drawR_bd {L sl rl rh wg : Int} {ks : List Kn} {ls : List Sp} {er : Int} (h : DrawR L sl rl rh wg ks ls er) (s : Sp) (hs : s ∈ ls) : (-2400 ≤ s.1 ∧ s.1 ≤ s.2 ∧ s.2 ≤ 2400) := by
  by_cases he : er = 0
  · have hV := (openR_zero h.1 he).1
    obtain ⟨i, hi, e⟩ := List.getElem_of_mem hs
    have k := (h.2.1 he).2 i s (by rw [List.getElem?_eq_getElem hi, e])
    have a1 := inF_bd hV ((inF_none _ _ _ _).2 k.1)
    have a2 := inF_bd hV ((inF_none _ _ _ _).2 k.2.1)
    have a3 := k.2.2 _ k.2.1
    omega
  · rw [h.2.2 he] at hs; cases hs
def mids (ls : List Sp) : List Int := ls.map fun s => midI s.1 s.2
theorem mids_len (ls : List Sp) : (mids ls).length = ls.length := List.length_map _
theorem mids_snoc {ls : List Sp} {k : Nat} {s : Sp} (h : ls[k]? = some s) : mids (ls.take (k + 1)) = mids (ls.take k) ++ [midI s.1 s.2] := by
  unfold mids
  rw [take_snoc h, List.map_append]; rfl
/-- One span of a slice of spans. -/
theorem rd_sp {w : World} {A : Option Addr} {ls : List Sp} (h : RdS w A ls) {i : Nat} {s : Sp} (hi : ls[i]? = some s) :
    ∃ b off, A = some ⟨b, off, none⟩ ∧ b < w.heap.size ∧ w.cell? ⟨b, off + i * 2, none⟩ = some (.int .i64 s.1) ∧ w.cell? ⟨b, off + i * 2 + 1, none⟩ = some (.int .i64 s.2) := by
  obtain ⟨b, off, e, hb, hc⟩ := Rd.elem h (i := i) (r := srow s) (by simp [hi])
  exact ⟨b, off, e, hb, by simpa using hc 0 _ rfl, by simpa using hc 1 _ rfl⟩
theorem inf3 : (Try.prog.info? 3).map (fun i => (i.zero, i.size, i.bytes)) = some (some (.int .i64 0), 1, 8) := by kernel_rfl
set_option maxRecDepth 100000 in
set_option maxHeartbeats 4000000 in
theorem best25 (L sl rl rh wg : Int) (A : Option Addr) (n cap : Nat) (ks : List Kn) (w : World) (hA : Rd 3 w A (ks.map krow)) (hn : Hid (n = ks.length)) (hlen : n ≤ 9223372036854775807) :
    Calls Try.prog 25 #[.agg #[.int .i64 L, .int .i64 sl, .int .i64 rl, .int .i64 rh, .slice A n cap, .int .i64 wg]] w fun e w' => ∃ (A' : Option Addr) (cap' : Nat) (ls : List Sp) (er : Int), e = .returned (.tuple #[.slice A' (mids ls).length cap', .int .i64 er]) ∧ Hid (DrawR L sl rl rh wg ks ls er) ∧ RdI w' A' (mids ls) ∧ ls.length ≤ 13 ∧ Below w.heap.size w w' := by
  have HA := Lib.hid hA
  obtain ⟨i0, hi0, hi1, hi2, hi3⟩ := info_parts inf3
  clear hA
  go_enter Try.func25, Try.ntmps25
  go_wp2_with fail
  refine (draw21 L sl rl rh wg A n cap ks _ (HA.out.below (B := w.heap.size) (by (repeat' (first | (with_reducible exact Below.refl _ _) | (with_reducible assumption) | (with_reducible refine Below.drew ?_) | (with_reducible refine below_drewN ?_ _) | (with_reducible refine Below.setCell ?_ ?_ _) | (with_reducible refine Below.alloc ?_ ?_ _) | (refine Below.trans ?_ (Below.mono (by with_reducible assumption) ?_)) | omega | (exact Below.size (by with_reducible assumption)) | (simp; done) | (simp; omega)))) (Nat.le_refl _)) hn hlen).mono ?_
  rintro e w1 ⟨A', cap', ls, er, rfl, hD, hrd, hll, hb1⟩
  have hz1 := hb1.size
  simp only [World.size_alloc] at hz1
  have hB1 : Below w.heap.size w w1 := by (repeat' (first | (with_reducible exact Below.refl _ _) | (with_reducible assumption) | (with_reducible refine Below.drew ?_) | (with_reducible refine below_drewN ?_ _) | (with_reducible refine Below.setCell ?_ ?_ _) | (with_reducible refine Below.alloc ?_ ?_ _) | (refine Below.trans ?_ (Below.mono (by with_reducible assumption) ?_)) | omega | (exact Below.size (by with_reducible assumption)) | (simp; done) | (simp; omega)))
  have HR := Lib.hid hrd
  clear hb1 hrd
  go_wp2
  go_loopg [6, 16] ls.length (fun K y z w5 => ∃ k : Nat, K + k = ls.length ∧ z = .int .i64 k ∧ Gro w5 w1.heap.size 3 1 y ((mids (ls.take k)).map irow) ∧ w1.heap.size ≤ w5.heap.size ∧ Below w1.heap.size w1 w5)
  case atStart => exact ⟨0, rfl, rfl, Gro.nil _ _ _ _, Nat.le_refl _, Below.refl _ _⟩
  case round =>
    obtain ⟨k, hK, rfl, hg, hsz, hbw⟩ := hrel
    obtain ⟨PA, pc, rfl, hrd⟩ := hg.out
    have hmk : (mids (ls.take k)).length ≤ k := by rw [mids_len, List.length_take]; omega
    by_cases hlt : k < ls.length
    · clear hrd
      obtain ⟨s, hs⟩ : ∃ s, Hid (ls[k]? = some s) := ⟨ls[k]'hlt, by simp [Hid]⟩
      have hbd := drawR_bd hD.out s (List.mem_of_getElem? hs.out)
      obtain ⟨b, off, rfl, hb, hc0, hc1⟩ := rd_sp (HR.out.below hbw (Nat.le_refl _)) hs.out
      have hsn := Lib.hid (mids_snoc hs.out)
      rw [List.length_map] at hg
      go_wp2_with fail
      refine (middle61 s.1 s.2 _ (by omega) (by omega)).mono ?_
      rintro e w2 ⟨rfl, hb2⟩
      have hz2 := hb2.size
      simp only [World.size_alloc] at hz2
      have hb2' : Below wr.heap.size wr w2 := by (repeat' (first | (with_reducible exact Below.refl _ _) | (with_reducible assumption) | (with_reducible refine Below.drew ?_) | (with_reducible refine below_drewN ?_ _) | (with_reducible refine Below.setCell ?_ ?_ _) | (with_reducible refine Below.alloc ?_ ?_ _) | (refine Below.trans ?_ (Below.mono (by with_reducible assumption) ?_)) | omega | (exact Below.size (by with_reducible assumption)) | (simp; done) | (simp; omega)))
      have hg2 := hg.below hb2' (Nat.le_refl _)
      have hbw2 := hbw.trans (hb2'.mono hsz)
      clear hb2
      go_wp2_with (at_builtin; go_must (refine wpList_append_own _ rfl _ _ 44 rfl w1.heap.size 3 i0 (.int .i64 0) 1 8 Try.underlying44 hi0 hi1 hi2 hi3 rfl (by decide) (.slice PA (mids (ls.take k)).length pc) ((mids (ls.take k)).map irow).length _ rfl (hg2.2.alloc _) ⟨w2.heap.size, 0, none⟩ 1 1 [.int .i64 (midI s.1 s.2)] rfl rfl (cell_one_new _ _ _) (by intro u hu; simp at hu; subst hu; rfl) (by rw [List.length_map]; unfold maxLen; omega) (by rw [List.length_map]; omega) (by simp; omega) ?_; intro v' w6 hown' hgrow hnil))
      have hbA : Below w1.heap.size w2 w6 := ((Below.refl _ w2).alloc (by omega) _).grown hgrow (by simp; omega) (fun i hi => (hg2.2.lt i hi).1)
      have hg6 : Gro w6 w1.heap.size 3 1 v' ((mids (ls.take k)).map irow ++ [irow (midI s.1 s.2)]) := Gro.grown hg2 rfl hown'
      have hz6 := hbA.size
      have hB6 := hbw2.trans hbA
      clear hown' hgrow hnil hbA
      go_roundg (ls.length - (k + 1))
      case measure => omega
      case rel => exact ⟨k + 1, by omega, by go_num, by rw [hsn.out, List.map_append]; exact hg6, by omega, hB6⟩
    · obtain rfl : k = ls.length := by omega
      rw [List.length_map]
      rw [List.take_of_length_le (Nat.le_refl _)] at hrd ⊢
      go_wp2
      go_ret2
      exact ⟨PA, pc, ls, er, rfl, hD, hrd, hll, hB1.trans (hbw.mono (by omega))⟩
end Go.Proofs.Ytphcpphmoeiioaa
