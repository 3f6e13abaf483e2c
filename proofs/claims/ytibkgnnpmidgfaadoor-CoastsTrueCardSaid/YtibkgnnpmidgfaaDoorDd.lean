/- Walks: IsWalk of the program. -/
import Derived.Test.YtibkgnnpmidgfaaDoorDc
namespace Go.Proofs.YtibkgnnpmidgfaaDoor
open Go.RowKit Go.Maps

def natI (ws : List Nat) : List Int := ws.map Int.ofNat
theorem natI_at {ws : List Nat} {i a : Nat} (h : ws[i]? = some a) : (natI ws)[i]? = some (a : Int) := by unfold natI; rw [List.getElem?_map, h]; rfl
/-- Is step number i of this walk one that the opening reaches? -/
def stepB (B : List Pt) (o : Int) (ws : List Nat) (i : Nat) : Bool := reachB (atB B (ws.getD (i + 1) 0)) (atB B (ws.getD i 0)) o
def okWalk (B : List Pt) (o : Int) (ws : List Nat) : Bool := (List.range (ws.length - 1)).all (stepB B o ws)
theorem getD_of {ws : List Nat} {i a : Nat} (h : ws[i]? = some a) : ws.getD i 0 = a := by rw [List.getD_eq_getElem?_getD, h]; rfl

set_option maxRecDepth 100000 in
set_option maxHeartbeats 4000000 in
theorem isWalk25 (A0 A1 A2 : Option Addr) (n0 n1 n2 c0 c1 c2 : Nat) (cw : Int) (A : Option Addr) (n c : Nat) (o : Int) (f t : Nat) (ws : List Nat) (B D : List Pt) (R : List Rep) (w : World) (hC : RdC w A0 A1 A2 n0 n1 n2 B D R) (hV : Hid (Val cw B D R)) (ho : 1 ≤ o ∧ o ≤ 60) (hx : RdI w A (natI ws)) (hn : n = ws.length) (h2 : 2 ≤ n) (h9 : n ≤ 100)
    (hf : ws[0]? = some f) (ht : ws[n - 1]? = some t) (hasc : ∀ i a b, ws[i]? = some a → ws[i + 1]? = some b → a < b ∧ b < n0) :
    Calls Tryd.prog 25 #[.agg #[.slice A0 n0 c0, .slice A1 n1 c1, .slice A2 n2 c2, .int .i64 cw], .int .i64 o, .int .i64 f, .int .i64 t, .slice A n c] w fun e w' => e = .returned (.bool (okWalk B o ws)) ∧ Below w.heap.size w w' := by
  have HC := Lib.hid hC
  have HX := Lib.hid hx
  have HN := Lib.hid hn
  have HA := Lib.hid hasc
  have o0 : Own (w.alloc (.cells #[.slice A0 n0 c0, .slice A1 n1 c1, .slice A2 n2 c2, .int .i64 cw] 26)) w.heap.size [.slice A0 n0 c0, .slice A1 n1 c1, .slice A2 n2 c2, .int .i64 cw] := Own.new' _ _ rfl rfl
  have oB : Below w.heap.size w (w.alloc (.cells #[.slice A0 n0 c0, .slice A1 n1 c1, .slice A2 n2 c2, .int .i64 cw] 26)) := by (repeat' (first | (with_reducible exact Below.refl _ _) | (with_reducible assumption) | (with_reducible refine Below.drew ?_) | (with_reducible refine below_drewN ?_ _) | (with_reducible refine Below.setCell ?_ ?_ _) | (with_reducible refine Below.alloc ?_ ?_ _) | (refine Below.trans ?_ (Below.mono (by with_reducible assumption) ?_)) | omega | (exact Below.size (by with_reducible assumption)) | (simp; done) | (simp; omega)))
  obtain ⟨b, off, rfl, hb, g0⟩ := (HX.out.below oB (Nat.le_refl _)).elem (natI_at hf)
  obtain ⟨b', off', hbb, _, g1⟩ := (HX.out.below oB (Nat.le_refl _)).elem (natI_at ht)
  obtain ⟨rfl, rfl⟩ : b = b' ∧ off = off' := by simpa using hbb
  clear hbb hC hx hn hasc hf ht
  rw [Nat.add_zero] at g0
  go_enter Tryd.func25, Tryd.ntmps25
  have g1' : (w.alloc (.cells #[.slice A0 n0 c0, .slice A1 n1 c1, .slice A2 n2 c2, .int .i64 cw] 26)).cell? ⟨b, off + (n - 1), none⟩ = some (.int .i64 t) := g1
  go_wp2
  go_loopg [11] (n - 1) (fun K i wr => ∃ k : Nat, K + k = n - 1 ∧ i = .int .i64 ((k + 1 : Nat) : Int) ∧ Hid ((List.range k).all (stepB B o ws) = true) ∧ Own wr w.heap.size [.slice A0 n0 c0, .slice A1 n1 c1, .slice A2 n2 c2, .int .i64 cw] ∧ Below w.heap.size w wr)
  case atStart => exact ⟨0, by omega, rfl, by simp [Hid], o0, oB⟩
  case round =>
    clear o0 oB g0 g1 g1'
    obtain ⟨k, hk, rfl, hall, p0, hbw⟩ := hrel
    have p0' := p0
    obtain ⟨l0, k0, f0⟩ := p0'
    by_cases hlt : k + 1 < n
    · obtain ⟨x, hx⟩ : ∃ x, Hid (ws[k]? = some x) := ⟨ws[k]'(by have := HN.out; omega), by simp [Hid]⟩
      obtain ⟨y, hy⟩ : ∃ y, Hid (ws[k + 1]? = some y) := ⟨ws[k + 1]'(by have := HN.out; omega), by simp [Hid]⟩
      obtain ⟨hxy, hyn⟩ := HA.out k x y hx.out hy.out
      obtain ⟨b2, o2, e2, hl2, c2x⟩ := (HX.out.below hbw (Nat.le_refl _)).elem (natI_at hx.out)
      obtain ⟨b3, o3, e3, hl3, c3x⟩ := (HX.out.below hbw (Nat.le_refl _)).elem (natI_at hy.out)
      cases e2
      cases e3
      obtain ⟨wo, rfl⟩ : ∃ wo : World, wo = wr := ⟨_, rfl⟩
      have hx0 := Aft.cell p0
      have hx1 := fun s : Aft wo => (Aft.old s hl2 _).trans c2x
      have hx2 := fun s : Aft wo => (Aft.old s hl2 _).trans c3x
      have HP := Lib.hid (plB_iff.2 (by omega) : plB n0 x y = true)
      have hst : Hid (stepB B o ws k = reachB (atB B y) (atB B x) o) := by show _ = _; unfold stepB; rw [getD_of hx.out, getD_of hy.out]
      have HR := Lib.hid (fun s : Aft wo => reaches69 A0 A1 A2 n0 n1 n2 c0 c1 c2 cw o x y B D R s.w ((HC.out.below hbw (Nat.le_refl _)).below s.h (Nat.le_refl _)) hV ho (by omega) hyn)
      clear c2x c3x
      cases hr : reachB (atB B y) (atB B x) o
      · have HRR := Lib.hid (fun s : Aft wo => cbB hr (HR.out s))
        have hno : Hid (okWalk B o ws = false) := by
          show _ = _
          unfold okWalk
          rw [List.all_eq_false]
          exact ⟨k, List.mem_range.2 (by have := HN.out; omega), by rw [hst.out, hr]; simp⟩
        clear hr
        go_wp2
        refine wp_region_aft (by kernel_rfl) (by kernel_rfl) ?_; (repeat (go_big_quiet_step ((first | (go_at_call 15; exact aft_of (cbB HP.out (areBends15 _ _ _ _ _ _ _ _ _ _ _ _ _))) | (go_at_call 69; exact aft_of (HRR.out _)))))); refine wpQuiet_nil ?_; rintro w7 ⟨⟨_, hb7⟩, rfl⟩
        go_wp2
        go_ret
        exact ⟨ret_bool hno.out.symm, by (repeat' (first | (with_reducible exact Below.refl _ _) | (with_reducible assumption) | (with_reducible refine Below.drew ?_) | (with_reducible refine below_drewN ?_ _) | (with_reducible refine Below.setCell ?_ ?_ _) | (with_reducible refine Below.alloc ?_ ?_ _) | (refine Below.trans ?_ (Below.mono (by with_reducible assumption) ?_)) | omega | (exact Below.size (by with_reducible assumption)) | (simp; done) | (simp; omega)))⟩
      · have HRR := Lib.hid (fun s : Aft wo => cbB hr (HR.out s))
        have hyes : Hid ((List.range (k + 1)).all (stepB B o ws) = true) := by
          show _ = _
          rw [List.range_succ, List.all_append, hall.out]
          simp [hst.out, hr]
        clear hr
        go_wp2
        refine wp_region_aft (by kernel_rfl) (by kernel_rfl) ?_; (repeat (go_big_quiet_step ((first | (go_at_call 15; exact aft_of (cbB HP.out (areBends15 _ _ _ _ _ _ _ _ _ _ _ _ _))) | (go_at_call 69; exact aft_of (HRR.out _)))))); refine wpQuiet_nil ?_; rintro w7 ⟨⟨_, hb7⟩, rfl⟩
        have p1 := p0.below hb7 p0.lt
        have hB7 : Below w.heap.size w w7 := by (repeat' (first | (with_reducible exact Below.refl _ _) | (with_reducible assumption) | (with_reducible refine Below.drew ?_) | (with_reducible refine below_drewN ?_ _) | (with_reducible refine Below.setCell ?_ ?_ _) | (with_reducible refine Below.alloc ?_ ?_ _) | (refine Below.trans ?_ (Below.mono (by with_reducible assumption) ?_)) | omega | (exact Below.size (by with_reducible assumption)) | (simp; done) | (simp; omega)))
        go_wp2
        go_roundg (n - 1 - (k + 1))
        case measure => omega
        case rel => exact ⟨k + 1, by omega, by go_num, hyes, p1, hB7⟩
    · have hyes : Hid (okWalk B o ws = true) := by show _ = _; unfold okWalk; rw [← HN.out, ← show k = n - 1 by omega]; exact hall.out
      go_wp2
      go_ret
      exact ⟨ret_bool hyes.out.symm, hbw⟩

end Go.Proofs.YtibkgnnpmidgfaaDoor
