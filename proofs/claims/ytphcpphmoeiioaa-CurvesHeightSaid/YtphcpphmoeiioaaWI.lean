/- Walks: the heights of a place, collected. -/
import Derived.Test.YtphcpphmoeiioaaWH
import Derived.Test.YtphcpphmoeiioaaColl
namespace Go.Proofs.Ytphcpphmoeiioaa
open Go.RowKit Go.Maps Go.Shelf

set_option maxRecDepth 100000 in
theorem seqB79 (L sl rl rh wg : Int) (A : Option Addr) (n cap : Nat) (ks : List Kn) (p : Nat) (B0 B1 : Nat) (w : World) (nF : Nat) (hnF : 2 ≤ nF) (hA : Rd 3 w A (ks.map krow)) (hn : Hid (n = ks.length)) (hV : Hid (CvV L sl rl rh wg ks)) (hp : (p : Int) ≤ L)
    (h0 : Own w B0 [.int .i64 L, .int .i64 sl, .int .i64 rl, .int .i64 rh, .slice A n cap, .int .i64 wg, .map none]) (h1 : Own w B1 [.int .i64 p]) :
    SeqB Fence.wide nF Try.prog 79 #[.pointer (some ⟨B0, 0, none⟩), .pointer (some ⟨B1, 0, none⟩)] (fun ls => ls = htL (cvOf L sl rl rh wg ks) p (rh - rl + 1).toNat) 201 w := by
  intro l J W hW hJ hY hJB hJ0
  refine (heights79 L sl rl rh wg A n cap ks p B0 B1 nF hnF hn hV hp l J (fun _ _ => False) W hJ (fun pre W1 a1 => ⟨h0.below (hJB _ _ a1) h0.lt, h1.below (hJB _ _ a1) h1.lt, hA.below (hJB _ _ a1) (Nat.le_refl _)⟩) (fun pre x W1 a1 a2 _ _ => ?_) hJ0).mono ?_
  · exact (hY pre x W1 a1 a2).mono fun e W' ⟨h1, h2, _⟩ => Or.inl ⟨h1, h2⟩
  · rintro e W' ⟨h1, h2 | ⟨_, h2⟩⟩
    · exact ⟨h1, _, rfl, h2⟩
    · exact h2.elim
theorem Gro.out' {w : World} {base e sz : Nat} {v : Value} {rows : List (List Value)} (h : Gro w base e sz v rows) : ∃ A cap, v = .slice A rows.length cap ∧ Rd sz w A rows ∧ ∀ b off, A = some ⟨b, off, none⟩ → base ≤ b := by
  obtain ⟨A, cap, e1, e2⟩ := h.out
  refine ⟨A, cap, e1, e2, ?_⟩
  rintro b off rfl
  obtain ⟨_, _, h2⟩ := h
  rcases h2 with ⟨rfl, _⟩ | ⟨g, cap', cur, rfl, hg, _⟩
  · cases e1
  · simp at e1
    omega
/-- What the program makes of a pen and a place: the iterator. -/
theorem heights52 (L sl rl rh wg : Int) (S fv : Value) (p : Int) (w : World) :
    Calls Try.prog 52 #[.agg #[.int .i64 L, .int .i64 sl, .int .i64 rl, .int .i64 rh, S, .int .i64 wg, fv], .int .i64 p] w fun e w' => e = .returned (.func (.func 79) #[] #[.pointer (some ⟨w.heap.size, 0, none⟩), .pointer (some ⟨w.heap.size + 1, 0, none⟩)]) ∧ w' = (w.alloc (.cells #[.int .i64 L, .int .i64 sl, .int .i64 rl, .int .i64 rh, S, .int .i64 wg, fv] 70)).alloc (.cells #[.int .i64 p] 3) := by
  go_enter Try.func52, Try.ntmps52
  go_wp2
  go_ret
  exact ⟨rfl, rfl⟩
set_option maxRecDepth 100000 in
set_option maxHeartbeats 2000000 in
theorem collect51 (L sl rl rh wg : Int) (A : Option Addr) (n cap : Nat) (ks : List Kn) (p : Nat) (B0 B1 : Nat) (w : World) (hA : Rd 3 w A (ks.map krow)) (hn : Hid (n = ks.length)) (hV : Hid (CvV L sl rl rh wg ks)) (hp : (p : Int) ≤ L)
    (h0 : Own w B0 [.int .i64 L, .int .i64 sl, .int .i64 rl, .int .i64 rh, .slice A n cap, .int .i64 wg, .map none]) (h1 : Own w B1 [.int .i64 p]) :
    Calls Try.prog 51 #[.func (.func 79) #[] #[.pointer (some ⟨B0, 0, none⟩), .pointer (some ⟨B1, 0, none⟩)]] w fun e w' => ∃ (A' : Option Addr) (cap' : Nat), e = .returned (.slice A' (htL (cvOf L sl rl rh wg ks) p (rh - rl + 1).toNat).length cap') ∧ RdI w' A' (htL (cvOf L sl rl rh wg ks) p (rh - rl + 1).toNat) ∧ (∀ b off, A' = some ⟨b, off, none⟩ → w.heap.size ≤ b) ∧ Below w.heap.size w w' := by
  have key : ∀ W, Below w.heap.size w W → Calls Try.prog 78 #[.slice none 0 0, .func (.func 79) #[] #[.pointer (some ⟨B0, 0, none⟩), .pointer (some ⟨B1, 0, none⟩)]] W fun e w' => ∃ (A' : Option Addr) (cap' : Nat), e = .returned (.slice A' (htL (cvOf L sl rl rh wg ks) p (rh - rl + 1).toNat).length cap') ∧ RdI w' A' (htL (cvOf L sl rl rh wg ks) p (rh - rl + 1).toNat) ∧ (∀ b off, A' = some ⟨b, off, none⟩ → W.heap.size ≤ b) ∧ Below W.heap.size W w' := fun W hb => by
    have h := appendSeqB (P := Try.prog) (ρ := collRen) collLay11 Fence.wide 5 trivial rfl (by omega) 79 #[.pointer (some ⟨B0, 0, none⟩), .pointer (some ⟨B1, 0, none⟩)] trivial (enters_of Try.func79 (by kernel_rfl) rfl)
      (fun ls => ls = htL (cvOf L sl rl rh wg ks) p (rh - rl + 1).toNat) 201 (by unfold maxLen; omega) (by omega) W (seqB79 L sl rl rh wg A n cap ks p B0 B1 W 4 (by omega) (hA.below hb (Nat.le_refl _)) hn hV hp (h0.below hb h0.lt) (h1.below hb h1.lt))
    refine (callsIn_wide.1 h).mono ?_
    rintro e w' ⟨v, ss, rfl, rfl, hrow, _, hb⟩
    have hg : Gro w' W.heap.size 3 1 v ((htL (cvOf L sl rl rh wg ks) p (rh - rl + 1).toNat).map irow) := by
      refine ⟨fun r hr => ?_, ?_⟩
      · obtain ⟨x, _, rfl⟩ := List.mem_map.1 hr; rfl
      · have e : ((htL (cvOf L sl rl rh wg ks) p (rh - rl + 1).toNat).map irow).flatten = (htL (cvOf L sl rl rh wg ks) p (rh - rl + 1).toNat).map encZ := by
          generalize htL (cvOf L sl rl rh wg ks) p (rh - rl + 1).toNat = L
          induction L with
          | nil => rfl
          | cons a L ih => rw [List.map_cons, List.flatten_cons, ih]; rfl
        rw [e, List.length_map]
        exact hrow
    obtain ⟨A, cap, rfl, hr, hf⟩ := hg.out'
    exact ⟨A, cap, by rw [List.length_map], hr, hf, hb⟩
  go_enter Try.func51, Try.ntmps51
  go_wp2_with fail
  refine (key _ (Below.refl _ _)).mono ?_
  rintro e w2 ⟨A', cap', rfl, hr, hf2, hb2⟩
  go_wp2
  go_ret
  exact ⟨A', cap', rfl, hr, hf2, hb2⟩
end Go.Proofs.Ytphcpphmoeiioaa
