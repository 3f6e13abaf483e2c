/- Walks: Told of the reference; sameSpans. -/
import Derived.Test.YtphcpphmoeiioaaRdW
namespace Go.Proofs.Ytphcpphmoeiioaa
open Go.RowKit Go.Maps

theorem mx3_run' (ats : Array TypeId) (ty : TypeId) (x y z : Int) : Builtin.max_ ats ty #[.int .i64 x, .int .i64 y, .int .i64 z] = pure (.int .i64 (max (max x y) z)) := by
  have e1 : (if x < y then y else x) = max x y := by split <;> omega
  have e : (if max x y < z then z else max x y) = max (max x y) z := by split <;> omega
  simp [Builtin.max_, Builtin.max2, e1, e]
theorem opR_uniq {L sl rl rh wg : Int} {ks : List Kn} {is : Bool} {er er' : Int} (h : OpenR L sl rl rh wg ks is er) (k : OpenR L sl rl rh wg ks is er') : er = er' := by
  rcases h with ⟨h1, rfl⟩ | ⟨h1, h2, rfl⟩ | ⟨h1, h2, rfl, h4⟩ | ⟨h1, h2, rfl, h4⟩ <;> rcases k with ⟨k1, rfl⟩ | ⟨k1, k2, rfl⟩ | ⟨k1, k2, rfl, k4⟩ | ⟨k1, k2, rfl, k4⟩ <;> simp_all
theorem drawL_eq {c : Cv} {ls ls' : List Sp} (h : DrawL c ls) (h' : DrawL c ls') (hl : ls.length = ls'.length) : ls = ls' :=
  List.ext_getElem hl fun i h1 h2 => by
    have := (h i _ (List.getElem?_eq_getElem h1)).uniq (h' i _ (List.getElem?_eq_getElem h2))
    exact Prod.ext this.1 this.2
section
variable {L sl rl rh wg : Int} {ks : List Kn}
theorem drawR_uniq {ls ls' : List Sp} {er er' : Int} (h : DrawR L sl rl rh wg ks ls er) (k : DrawR L sl rl rh wg ks ls' er') : ls' = ls ∧ er' = er := by
  have e := opR_uniq h.1 k.1
  subst e
  refine ⟨?_, rfl⟩
  by_cases he : er = 0
  · have h1 := h.2.1 he
    have k1 := k.2.1 he
    exact drawL_eq k1.2 h1.2 (by omega)
  · rw [h.2.2 he, k.2.2 he]
theorem intR_uniq {a b lo hi er lo' hi' er' : Int} (h : IntegralR L sl rl rh wg ks a b lo hi er) (k : IntegralR L sl rl rh wg ks a b lo' hi' er') : lo' = lo ∧ hi' = hi ∧ er' = er := by
  have e := opR_uniq h.1 k.1
  subst e
  by_cases he : er = 0
  · obtain ⟨h1, h2⟩ := (k.2.1 he).uniq (h.2.1 he)
    exact ⟨h1, h2, rfl⟩
  · obtain ⟨rfl, rfl⟩ := h.2.2 he
    obtain ⟨rfl, rfl⟩ := k.2.2 he
    exact ⟨rfl, rfl, rfl⟩
end
theorem toldL_uniq {ls : List Sp} {m m' : Int} (h : ToldL ls m) (k : ToldL ls m') : m' = m := by
  have key : ∀ {m m' : Int}, ToldL ls m → ToldL ls m' → m ≤ m' := fun {m m'} h k => by
    rcases h.2.1 with h0 | ⟨s, hs, h0⟩
    · have := k.1.1; omega
    · have := k.2.2 s hs; omega
  have := key h k
  have := key k h
  omega
section
attribute [local go_sem ↓] mx3_run'
set_option maxRecDepth 100000 in
set_option maxHeartbeats 8000000 in
theorem rtold28 (L sl rl rh wg : Int) (A : Option Addr) (n cap : Nat) (ks : List Kn) (w : World) (hA : Rd 3 w A (ks.map krow)) (hn : Hid (n = ks.length)) (hlen : n ≤ 9223372036854775807) (hfar : Hid (farB L sl rl rh wg ks = false)) :
    Calls Try.prog 28 #[.agg #[.int .i64 L, .int .i64 sl, .int .i64 rl, .int .i64 rh, .slice A n cap, .int .i64 wg]] w fun e w' => ∃ (ls : List Sp) (m er : Int), e = .returned (.tuple #[.int .i64 m, .int .i64 er]) ∧ Hid (DrawR L sl rl rh wg ks ls er) ∧ Hid (ToldL ls m) ∧ Below w.heap.size w w' := by
  have HA := Lib.hid hA
  clear hA
  go_enter Try.func28, Try.ntmps28
  go_wp2_with fail
  refine (rdraw24 L sl rl rh wg A n cap ks _ (HA.out.below (B := w.heap.size) (by (repeat' (first | (with_reducible exact Below.refl _ _) | (with_reducible assumption) | (with_reducible refine Below.drew ?_) | (with_reducible refine below_drewN ?_ _) | (with_reducible refine Below.setCell ?_ ?_ _) | (with_reducible refine Below.alloc ?_ ?_ _) | (refine Below.trans ?_ (Below.mono (by with_reducible assumption) ?_)) | omega | (exact Below.size (by with_reducible assumption)) | (simp; done) | (simp; omega)))) (Nat.le_refl _)) hn hlen hfar).mono ?_
  rintro e w1 ⟨A1, c1, ls, er, rfl, hD, hrd, hll, hb1⟩
  have q0 := Lib.hid (show Own w1 w.heap.size [.int .i64 L, .int .i64 sl, .int .i64 rl, .int .i64 rh, .slice A n cap, .int .i64 wg] from (Own.new' _ _ rfl rfl).below hb1 (by simp))
  have hB1 := Lib.hid (show Below w.heap.size w w1 by (repeat' (first | (with_reducible exact Below.refl _ _) | (with_reducible assumption) | (with_reducible refine Below.drew ?_) | (with_reducible refine below_drewN ?_ _) | (with_reducible refine Below.setCell ?_ ?_ _) | (with_reducible refine Below.alloc ?_ ?_ _) | (refine Below.trans ?_ (Below.mono (by with_reducible assumption) ?_)) | omega | (exact Below.size (by with_reducible assumption)) | (simp; done) | (simp; omega))))
  have HR := Lib.hid hrd
  clear hb1 hrd
  obtain ⟨lc, kc, fc⟩ := q0.out
  go_wp2_with fail
  refine (rbest26 L sl rl rh wg A n cap ks _ (HA.out.below hB1.out (Nat.le_refl _)) hn hlen hfar).mono ?_
  rintro e w2 ⟨A2, c2, ls2, er2, rfl, hD2, hM0, hll2, hb2⟩
  obtain ⟨z1, z2⟩ := drawR_uniq hD.out hD2.out
  subst z1
  subst z2
  have hB2 := Lib.hid (hB1.out.trans (hb2.mono hB1.out.size))
  have HR2 := Lib.hid (Rd.below (show Rd 2 w1 A1 (ls2.map srow) from HR.out) hb2 (Nat.le_refl _))
  have HM := Lib.hid hM0
  have hml : (mids ls2).length = ls2.length := mids_len ls2
  have hb0 := Lib.hid (fun s hs => drawR_bd hD.out s hs)
  clear hb2 hM0 HR hD2 lc kc fc q0
  go_wp2
  go_loopg [8, 9] ls2.length (fun K y z w5 => ∃ (k : Nat) (m : Int), K + k = ls2.length ∧ z = .int .i64 k ∧ y = .int .i64 m ∧ Hid (ToldL (ls2.take k) m) ∧ Hid (Below w2.heap.size w2 w5))
  case atStart => exact ⟨0, 0, rfl, rfl, rfl, Lib.hid (by simpa using ToldL.nil), Lib.hid (Below.refl _ _)⟩
  case round =>
    obtain ⟨k, m, hK, rfl, rfl, hT, hbw⟩ := hrel
    have hsz := hbw.out.size
    by_cases hlt : k < ls2.length
    · obtain ⟨s, hs⟩ : ∃ s, Hid (ls2[k]? = some s) := ⟨ls2[k]'hlt, by simp [Hid]⟩
      have hbd := hb0.out s (List.mem_of_getElem? hs.out)
      have hmid : Hid ((mids ls2)[k]? = some (midI s.1 s.2)) := Lib.hid (by unfold mids; rw [List.getElem?_map, hs.out]; rfl)
      have hsn := Lib.hid (show ToldL (ls2.take (k + 1)) (max m (max (midI s.1 s.2 - s.1) (s.2 - midI s.1 s.2))) by rw [take_snoc hs.out, ← Int.max_assoc]; exact hT.out.snoc s hbd)
      obtain ⟨b, off, hAe, hb, hc0, hc1⟩ := rd_sp (Rd.below HR2.out hbw.out (Nat.le_refl _)) hs.out
      obtain ⟨b3, off3, hA3, hb3, d0⟩ := (HM.out.below hbw.out (Nat.le_refl _)).elem hmid.out
      have hAE := Lib.hid hAe
      have hAA := hAE.out
      subst hAA
      have hAE3 := Lib.hid hA3
      have hAA3 := hAE3.out
      subst hAA3
      have hmb : 2 * midI s.1 s.2 ≤ s.1 + s.2 ∧ s.1 + s.2 ≤ 2 * midI s.1 s.2 + 1 := by unfold midI; omega
      have hm0 := hT.out.1
      generalize hx : midI s.1 s.2 = x at *
      have y0 : (k : Int) < (ls2.length : Int) := by omega
      have w1' := IntWalk.i64_in (x - s.1) (by omega)
      have w2' := IntWalk.i64_in (s.2 - x) (by omega)
      have hy0 := fun x : Aft wr => (Aft.old x hb _).trans hc0
      have hy1 := fun x : Aft wr => (Aft.old x hb _).trans hc1
      have hy2 := fun x : Aft wr => (Aft.old x hb3 _).trans d0
      clear hAe hA3 hAE hAE3 hc0 hc1 d0 hx
      go_wp2
      refine wp_region_aft (by kernel_rfl) (by kernel_rfl) ?_; (repeat (go_big_quiet_step (fail))); refine wpQuiet_nil ?_; rintro w7 ⟨⟨_, hb7⟩, rfl⟩
      have hB7 := Lib.hid (hbw.out.trans (hb7.mono hsz))
      clear hy0 hy1 hy2 w1' w2' hb7
      go_wp2
      go_roundg (ls2.length - (k + 1))
      case measure => omega
      case rel => exact ⟨k + 1, _, by omega, by go_num, rfl, hsn, hB7⟩
    · obtain rfl : k = ls2.length := by omega
      have hres : Hid (ToldL ls2 m) := by have := hT.out; rw [List.take_length] at this; exact Lib.hid this
      have HBx := Lib.hid (hB2.out.trans (hbw.out.mono hB2.out.size))
      clear hT
      go_wp2
      go_ret2
      exact ⟨ls2, m, er2, rfl, hD, hres, HBx.out⟩
end
set_option maxRecDepth 100000 in
set_option maxHeartbeats 8000000 in
theorem sameSpans29 (A : Option Addr) (n cap : Nat) (A' : Option Addr) (cap' : Nat) (ls : List Sp) (w : World) (hA : RdS w A ls) (hA' : RdS w A' ls) (hn : Hid (n = ls.length)) (hlen : n ≤ 100000) :
    Calls Try.prog 29 #[.slice A n cap, .slice A' n cap'] w fun e w' => e = .returned (.bool true) ∧ Below w.heap.size w w' := by
  have HA := Lib.hid (show Rd 2 w A (ls.map srow) from hA)
  have HA' := Lib.hid (show Rd 2 w A' (ls.map srow) from hA')
  clear hA hA'
  go_enter Try.func29, Try.ntmps29
  go_wp2
  go_loopg [5] n (fun K z wr => ∃ k : Nat, K + k = n ∧ z = .int .i64 k ∧ Hid (Below w.heap.size w wr))
  case atStart => exact ⟨0, rfl, rfl, Lib.hid (Below.refl _ _)⟩
  case round =>
    obtain ⟨k, hK, rfl, hbw⟩ := hrel
    have hsz := hbw.out.size
    by_cases hlt : k < n
    · obtain ⟨q, hq⟩ : ∃ q, Hid (ls[k]? = some q) := ⟨ls[k]'(by have := hn.out; omega), by simp [Hid]⟩
      obtain ⟨b, off, hAe, hb, c0, c1⟩ := rd_sp (HA.out.below hbw.out (Nat.le_refl _)) hq.out
      obtain ⟨b', off', hAe', hb', d0, d1⟩ := rd_sp (HA'.out.below hbw.out (Nat.le_refl _)) hq.out
      have hAE := Lib.hid hAe
      have hAA := hAE.out
      subst hAA
      have hAE' := Lib.hid hAe'
      have hAA' := hAE'.out
      subst hAA'
      have hy0 := fun x : Aft wr => (Aft.old x hb _).trans c0
      have hy1 := fun x : Aft wr => (Aft.old x hb _).trans c1
      have hz0 := fun x : Aft wr => (Aft.old x hb' _).trans d0
      have hz1 := fun x : Aft wr => (Aft.old x hb' _).trans d1
      have y0 : (k : Int) < (n : Int) := by omega
      clear hAe hAe' hAE hAE' c0 c1 d0 d1
      go_wp2
      refine wp_region_aft (by kernel_rfl) (by kernel_rfl) ?_; (repeat (go_big_quiet_step (fail))); refine wpQuiet_nil ?_; rintro w6 ⟨⟨_, hb6⟩, rfl⟩
      have hB6 := Lib.hid (hbw.out.trans (hb6.mono hsz))
      clear hy0 hy1 hz0 hz1 hb6
      go_wp2
      go_roundg (n - (k + 1))
      case measure => omega
      case rel => exact ⟨k + 1, by omega, by go_num, hB6⟩
    · obtain rfl : k = n := by omega
      go_wp2
      go_ret
      exact ⟨rfl, hbw.out⟩
end Go.Proofs.Ytphcpphmoeiioaa
