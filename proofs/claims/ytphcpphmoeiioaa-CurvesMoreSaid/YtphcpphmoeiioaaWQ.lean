/- Walks: Told. -/
import Derived.Test.YtphcpphmoeiioaaWP
namespace Go.Proofs.Ytphcpphmoeiioaa
open Go.RowKit Go.Maps

/-- By how much the drawn line can be off at the most. -/
def ToldL (ls : List Sp) (m : Int) : Prop :=
  (0 ≤ m ∧ m ≤ 4800) ∧ (m = 0 ∨ ∃ s, s ∈ ls ∧ m = max (midI s.1 s.2 - s.1) (s.2 - midI s.1 s.2)) ∧ ∀ s, s ∈ ls → midI s.1 s.2 - s.1 ≤ m ∧ s.2 - midI s.1 s.2 ≤ m
theorem ToldL.nil : ToldL [] 0 := ⟨by omega, Or.inl rfl, fun s h => by cases h⟩
theorem ToldL.snoc {ls : List Sp} {m : Int} (h : ToldL ls m) (s : Sp) (hs : -2400 ≤ s.1 ∧ s.1 ≤ s.2 ∧ s.2 ≤ 2400) : ToldL (ls ++ [s]) (max (max m (midI s.1 s.2 - s.1)) (s.2 - midI s.1 s.2)) := by
  obtain ⟨h1, h2, h3⟩ := h
  have hm : 2 * midI s.1 s.2 ≤ s.1 + s.2 ∧ s.1 + s.2 ≤ 2 * midI s.1 s.2 + 1 := by unfold midI; omega
  refine ⟨by omega, ?_, fun t ht => ?_⟩
  · by_cases e : max (midI s.1 s.2 - s.1) (s.2 - midI s.1 s.2) ≤ m
    · rcases h2 with h2 | ⟨t, ht, h2⟩
      · exact Or.inl (by omega)
      · exact Or.inr ⟨t, List.mem_append_left _ ht, by omega⟩
    · exact Or.inr ⟨s, List.mem_append_right _ (by simp), by omega⟩
  · rcases List.mem_append.1 ht with ht | ht
    · have := h3 t ht; omega
    · rw [List.mem_singleton.1 ht]; omega
set_option maxRecDepth 100000 in
set_option maxHeartbeats 4000000 in
theorem told27 (L sl rl rh wg : Int) (A : Option Addr) (n cap : Nat) (ks : List Kn) (w : World) (hA : Rd 3 w A (ks.map krow)) (hn : Hid (n = ks.length)) (hlen : n ≤ 9223372036854775807) :
    Calls Try.prog 27 #[.agg #[.int .i64 L, .int .i64 sl, .int .i64 rl, .int .i64 rh, .slice A n cap, .int .i64 wg]] w fun e w' => ∃ (ls : List Sp) (m er : Int), e = .returned (.tuple #[.int .i64 m, .int .i64 er]) ∧ Hid (DrawR L sl rl rh wg ks ls er) ∧ Hid (ToldL ls m) ∧ Below w.heap.size w w' := by
  have HA := Lib.hid hA
  clear hA
  go_enter Try.func27, Try.ntmps27
  go_wp2_with fail
  refine (draw21 L sl rl rh wg A n cap ks _ (HA.out.below (B := w.heap.size) (by (repeat' (first | (with_reducible exact Below.refl _ _) | (with_reducible assumption) | (with_reducible refine Below.drew ?_) | (with_reducible refine below_drewN ?_ _) | (with_reducible refine Below.setCell ?_ ?_ _) | (with_reducible refine Below.alloc ?_ ?_ _) | (refine Below.trans ?_ (Below.mono (by with_reducible assumption) ?_)) | omega | (exact Below.size (by with_reducible assumption)) | (simp; done) | (simp; omega)))) (Nat.le_refl _)) hn hlen).mono ?_
  rintro e w1 ⟨A', cap', ls, er, rfl, hD, hrd, hll, hb1⟩
  have hz1 := hb1.size
  simp only [World.size_alloc] at hz1
  have hB1 : Below w.heap.size w w1 := by (repeat' (first | (with_reducible exact Below.refl _ _) | (with_reducible assumption) | (with_reducible refine Below.drew ?_) | (with_reducible refine below_drewN ?_ _) | (with_reducible refine Below.setCell ?_ ?_ _) | (with_reducible refine Below.alloc ?_ ?_ _) | (refine Below.trans ?_ (Below.mono (by with_reducible assumption) ?_)) | omega | (exact Below.size (by with_reducible assumption)) | (simp; done) | (simp; omega)))
  have HR := Lib.hid hrd
  clear hb1 hrd
  go_wp2
  go_loopg [6, 16] ls.length (fun K y z w5 => ∃ (k : Nat) (m : Int), K + k = ls.length ∧ z = .int .i64 k ∧ y = .int .i64 m ∧ Hid (ToldL (ls.take k) m) ∧ w1.heap.size ≤ w5.heap.size ∧ Below w1.heap.size w1 w5)
  case atStart => exact ⟨0, 0, rfl, rfl, rfl, ToldL.nil, Nat.le_refl _, Below.refl _ _⟩
  case round =>
    obtain ⟨k, m, hK, rfl, rfl, hT, hsz, hbw⟩ := hrel
    by_cases hlt : k < ls.length
    · obtain ⟨s, hs⟩ : ∃ s, Hid (ls[k]? = some s) := ⟨ls[k]'hlt, by simp [Hid]⟩
      have hbd := drawR_bd hD.out s (List.mem_of_getElem? hs.out)
      obtain ⟨b, off, rfl, hb, hc0, hc1⟩ := rd_sp (HR.out.below hbw (Nat.le_refl _)) hs.out
      have hmb := hT.out.1
      have hmid : 2 * midI s.1 s.2 ≤ s.1 + s.2 ∧ s.1 + s.2 ≤ 2 * midI s.1 s.2 + 1 := by unfold midI; omega
      have hsn : Hid (ToldL (ls.take (k + 1)) (max (max m (midI s.1 s.2 - s.1)) (s.2 - midI s.1 s.2))) := by
        show ToldL _ _
        rw [take_snoc hs.out]
        exact hT.out.snoc s hbd
      go_wp2
      refine wp_gen fun W hW => ?_
      have o1 : Own W wr.heap.size [.int .i64 s.1, .int .i64 s.2] := by rw [hW]; exact Own.new' _ _ rfl rfl
      have hB5 : Below wr.heap.size wr W := by rw [hW]; (repeat' (first | (with_reducible exact Below.refl _ _) | (with_reducible assumption) | (with_reducible refine Below.drew ?_) | (with_reducible refine below_drewN ?_ _) | (with_reducible refine Below.setCell ?_ ?_ _) | (with_reducible refine Below.alloc ?_ ?_ _) | (refine Below.trans ?_ (Below.mono (by with_reducible assumption) ?_)) | omega | (exact Below.size (by with_reducible assumption)) | (simp; done) | (simp; omega)))
      have hx0 := Aft.cell (W := W) o1
      have hcall : ∀ x5 : Aft W, Calls Try.prog 61 #[.agg #[.int .i64 s.1, .int .i64 s.2]] x5.w fun e w' => e = .returned (.int .i64 (midI s.1 s.2)) ∧ Below x5.w.heap.size x5.w w' := fun x5 => middle61 s.1 s.2 _ (by omega) (by omega)
      have hs1 : IntKind.i64.wrap (midI s.1 s.2 - s.1) = midI s.1 s.2 - s.1 := IntWalk.i64_in _ (by omega)
      have hs2 : IntKind.i64.wrap (s.2 - midI s.1 s.2) = s.2 - midI s.1 s.2 := IntWalk.i64_in _ (by omega)
      clear hW hc0 hc1
      refine wp_region_aft (by kernel_rfl) (by kernel_rfl) ?_; (repeat (go_big_quiet_step ((go_at_call 61; with_reducible exact aft_of (hcall _))))); refine wpQuiet_nil ?_; rintro w6 ⟨⟨_, hb6⟩, rfl⟩
      have hmx : ∀ A B : Int, (if (if m < A then A else m) < B then B else if m < A then A else m) = max (max m A) B := fun A B => by repeat' split <;> omega
      rw [hmx]
      have hz5 := hB5.size
      have hz6 := hb6.size
      have hB6 := hbw.trans ((hB5.trans (hb6.mono hz5)).mono hsz)
      clear hmx hx0 hcall hs1 hs2
      generalize max (max m (midI s.1 s.2 - s.1)) (s.2 - midI s.1 s.2) = m' at hsn ⊢
      go_wp2
      go_roundg (ls.length - (k + 1))
      case measure => omega
      case rel => exact ⟨k + 1, m', by omega, by go_num, rfl, hsn, by omega, hB6⟩
    · obtain rfl : k = ls.length := by omega
      rw [List.take_of_length_le (Nat.le_refl _)] at hT
      go_wp2
      go_ret2
      exact ⟨ls, m, er, rfl, hD, hT, hB1.trans (hbw.mono (by omega))⟩
end Go.Proofs.Ytphcpphmoeiioaa
