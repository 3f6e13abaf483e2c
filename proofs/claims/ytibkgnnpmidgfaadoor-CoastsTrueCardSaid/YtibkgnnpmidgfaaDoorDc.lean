/- Walks: subset, reaches, IsWalk of the program. -/
import Derived.Test.YtibkgnnpmidgfaaDoorDb
namespace Go.Proofs.YtibkgnnpmidgfaaDoor
open Go.RowKit Go.Maps

set_option maxRecDepth 100000 in
set_option maxHeartbeats 2000000 in
theorem subset24 (A A' : Option Addr) (n n' c c' : Nat) (xs ys : List Int) (w : World) (hx : RdI w A xs) (hy : RdI w A' ys) (hn : n = xs.length) (hn' : n' = ys.length) (hl : n ≤ 140737488355328) (hl' : n' ≤ 140737488355328)
    (hs : ∀ x ∈ xs, x ∈ ys) (hnn : n ≤ n') :
    Calls Tryd.prog 24 #[.slice A n c, .slice A' n' c'] w fun e w' => e = .returned (.bool true) ∧ w = w' := by
  have HX := Lib.hid hx
  have HY := Lib.hid hy
  have HN := Lib.hid hn
  have HN' := Lib.hid hn'
  have HS := Lib.hid hs
  clear hx hy hn hn' hs
  go_enter Tryd.func24, Tryd.ntmps24
  go_wp2
  go_loopg [5] n (fun K i wr => ∃ k : Nat, K + k = n ∧ i = .int .i64 k ∧ w = wr)
  case atStart => exact ⟨0, rfl, rfl, rfl⟩
  case round =>
    obtain ⟨k, hk, rfl, rfl⟩ := hrel
    by_cases hlt : k < n
    · obtain ⟨y, hy⟩ : ∃ y, Hid (xs[k]? = some y) := ⟨xs[k]'(by have := HN.out; omega), by simp [Hid]⟩
      obtain ⟨b, o, rfl, hb, hc⟩ := HX.out.elem hy.out
      have HD := Lib.hid (decide_eq_true (HS.out y (List.mem_of_getElem? hy.out)))
      go_wp2_with (first | (go_at_call 26; refine (cbP HD.out (in26 A' n' c' ys y _ HY.out HN'.out hl')).mono ?_; rintro e w2 ⟨rfl, rfl⟩) | fail)
      go_roundg (n - (k + 1))
      case measure => omega
      case rel => exact ⟨k + 1, by omega, by go_num, rfl⟩
    · go_wp2
      go_ret
      exact ⟨rfl, rfl⟩

set_option maxRecDepth 100000 in
set_option maxHeartbeats 4000000 in
theorem reaches69 (A0 A1 A2 : Option Addr) (n0 n1 n2 c0 c1 c2 : Nat) (cw : Int) (o : Int) (f t : Nat) (B D : List Pt) (R : List Rep) (w : World) (hC : RdC w A0 A1 A2 n0 n1 n2 B D R) (hV : Hid (Val cw B D R)) (ho : 1 ≤ o ∧ o ≤ 60) (hf : f < n0) (ht : t < n0) :
    Calls Tryd.prog 69 #[.agg #[.slice A0 n0 c0, .slice A1 n1 c1, .slice A2 n2 c2, .int .i64 cw], .int .i64 o, .int .i64 f, .int .i64 t] w fun e w' => e = .returned (.bool (reachB (atB B t) (atB B f) o)) ∧ Below w.heap.size w w' := by
  have HC := Lib.hid hC
  have hn := hC.h0
  obtain ⟨⟨fx, fy⟩, hg⟩ : ∃ g, Hid (B[f]? = some g) := ⟨B[f]'(by omega), by simp [Hid]⟩
  obtain ⟨⟨tx, ty⟩, hg'⟩ : ∃ g, Hid (B[t]? = some g) := ⟨B[t]'(by omega), by simp [Hid]⟩
  have ha := Lib.hid (atB_of hg.out)
  have ha' := Lib.hid (atB_of hg'.out)
  obtain ⟨⟨y1, y2⟩, y3, y4⟩ := hV.out.pts _ _ hg.out
  obtain ⟨⟨z1, z2⟩, z3, z4⟩ := hV.out.pts _ _ hg'.out
  dsimp only at y1 y2 y3 y4 z1 z2 z3 z4
  obtain ⟨b0, off, rfl, hb0, hc0, hc1⟩ := rd_pt hC.r0 hg.out
  obtain ⟨b1, off1, hbb, hb1, hd0, hd1⟩ := rd_pt hC.r0 hg'.out
  obtain ⟨rfl, rfl⟩ : b0 = b1 ∧ off = off1 := by simpa using hbb
  dsimp only at hc0 hc1 hd0 hd1
  have hlz := hC.l0
  have k1 := sq_bound (x := fx - tx) (m := 400) (by omega) (by omega)
  have k2 := sq_bound (x := fy - ty) (m := 400) (by omega) (by omega)
  have k3 := sq_bound (x := o) (m := 60) (by omega) (by omega)
  have hr : Hid (reachB (atB B t) (atB B f) o = decide ((fx - tx) * (fx - tx) + (fy - ty) * (fy - ty) ≤ o * o)) := by show _ = _; rw [ha.out, ha'.out]; rfl
  have o0 : Own (w.alloc (.cells #[.slice (some ⟨b0, off, none⟩) n0 c0, .slice A1 n1 c1, .slice A2 n2 c2, .int .i64 cw] 26)) w.heap.size [.slice (some ⟨b0, off, none⟩) n0 c0, .slice A1 n1 c1, .slice A2 n2 c2, .int .i64 cw] := Own.new' _ _ rfl rfl
  have oB : Below w.heap.size w (w.alloc (.cells #[.slice (some ⟨b0, off, none⟩) n0 c0, .slice A1 n1 c1, .slice A2 n2 c2, .int .i64 cw] 26)) := by (repeat' (first | (with_reducible exact Below.refl _ _) | (with_reducible assumption) | (with_reducible refine Below.drew ?_) | (with_reducible refine below_drewN ?_ _) | (with_reducible refine Below.setCell ?_ ?_ _) | (with_reducible refine Below.alloc ?_ ?_ _) | (refine Below.trans ?_ (Below.mono (by with_reducible assumption) ?_)) | omega | (exact Below.size (by with_reducible assumption)) | (simp; done) | (simp; omega)))
  have hx1 := (bcell oB).1 b0 (off + f * 2) hb0
  have hx2 := (bcell oB).1 b0 (off + f * 2 + 1) hb0
  have hx3 := (bcell oB).1 b0 (off + t * 2) hb0
  have hx4 := (bcell oB).1 b0 (off + t * 2 + 1) hb0
  rw [hc0] at hx1
  rw [hc1] at hx2
  rw [hd0] at hx3
  rw [hd1] at hx4
  clear hc0 hc1 hd0 hd1 hbb hC hn
  go_enter Tryd.func69, Tryd.ntmps69
  go_wp2
  go_region
  go_wp2
  go_ret
  exact ⟨ret_bool hr.out.symm, by (repeat' (first | (with_reducible exact Below.refl _ _) | (with_reducible assumption) | (with_reducible refine Below.drew ?_) | (with_reducible refine below_drewN ?_ _) | (with_reducible refine Below.setCell ?_ ?_ _) | (with_reducible refine Below.alloc ?_ ?_ _) | (refine Below.trans ?_ (Below.mono (by with_reducible assumption) ?_)) | omega | (exact Below.size (by with_reducible assumption)) | (simp; done) | (simp; omega)))⟩

end Go.Proofs.YtibkgnnpmidgfaaDoor
