/- Walks: CurvesHeight (merged) -/
import Derived.Test.YtphcpphmoeiioaaSpA
import Derived.Test.YtphcpphmoeiioaaFwA
import Derived.Test.YtphcpphmoeiioaaLvNA
import Derived.Test.YtphcpphmoeiioaaLvNB
import Derived.Test.YtphcpphmoeiioaaRvA
import Derived.Test.YtphcpphmoeiioaaCpA
namespace Go.Proofs.Ytphcpphmoeiioaa
open Go.RowKit Go.Maps

/-- The least number of a list's first rows, and a number of its own. -/
def MnK {α : Type} (g : α → Int) (ls : List α) (k : Nat) (n m : Int) : Prop := m ≤ n ∧ (m = n ∨ ∃ l, l ∈ ls.take k ∧ g l = m) ∧ ∀ l, l ∈ ls.take k → m ≤ g l
theorem MnK.zero {α : Type} (g : α → Int) (ls : List α) (n : Int) : MnK g ls 0 n n := ⟨Int.le_refl _, Or.inl rfl, fun l h => by simp at h⟩
theorem MnK.next {α : Type} {g : α → Int} {ls : List α} {k : Nat} {n m : Int} {l : α} (h : MnK g ls k n m) (hl : ls[k]? = some l) : MnK g ls (k + 1) n (min m (g l)) := by
  obtain ⟨h1, h2, h3⟩ := h
  rw [MnK, take_snoc hl]
  refine ⟨by omega, ?_, fun x hx => ?_⟩
  · by_cases q : m ≤ g l
    · rw [show min m (g l) = m by omega]
      rcases h2 with h2 | ⟨x, hx, e⟩
      · exact Or.inl h2
      · exact Or.inr ⟨x, List.mem_append_left _ hx, e⟩
    · rw [show min m (g l) = g l by omega]
      exact Or.inr ⟨l, by simp, rfl⟩
  · rcases List.mem_append.1 hx with hx | hx
    · have := h3 x hx; omega
    · simp only [List.mem_singleton] at hx; subst hx; omega
theorem Ok.congr' {c : Cv} {n : Nat} {h g : Nat → Int} (k : Ok c n h) (e : ∀ i, i ≤ n → g i = h i) : Ok c n g :=
  ⟨fun i hi => by rw [e i hi]; exact k.1 i hi, fun i hi => by rw [e i (by omega), e (i + 1) (by omega)]; exact k.2 i hi⟩
theorem mnK_few {L sl rl rh wg : Int} {ks : List Kn} (h1 : rl ≤ rh) (h0 : 0 ≤ sl) {m : Int} (h : MnK (fun l => (wUp ks (fnL l) L.toNat : Int)) (allF L.toNat sl rl rh (L.toNat + 2) []) (allF L.toNat sl rl rh (L.toNat + 2) []).length (ks.length : Int) m) : FewP (cvOf L sl rl rh wg ks) m := by
  obtain ⟨k1, k2, k3⟩ := h
  rw [List.take_length] at k2 k3
  have has : ∀ h, Ok (cvOf L sl rl rh wg ks) L.toNat h → (List.range (L.toNat + 1)).map h ∈ allF L.toNat sl rl rh (L.toNat + 2) [] ∧ wUp ks (fnL ((List.range (L.toNat + 1)).map h)) L.toNat = wUp ks h L.toNat := fun h hh => by
    have e : ∀ i, i ≤ L.toNat → fnL ((List.range (L.toNat + 1)).map h) i = h i := fun i hi => fnL_map (by omega)
    exact ⟨(mem_allF (by simp) (by simp)).2 ⟨⟨_, (List.nil_append _).symm⟩, by simp, (soL_ok (wg := wg) (ks := ks) (by simp)).2 (hh.congr' e)⟩, wUp_congr e⟩
  have ok : ∀ l, l ∈ allF L.toNat sl rl rh (L.toNat + 2) [] → Ok (cvOf L sl rl rh wg ks) L.toNat (fnL l) := fun l hl => by
    obtain ⟨_, a1, a2⟩ := (mem_allF (by simp) (by simp)).1 hl
    exact (soL_ok a1).1 a2
  have hc : Ok (cvOf L sl rl rh wg ks) L.toNat (fun _ => rl) := ⟨fun i hi => ⟨Int.le_refl _, h1⟩, fun i hi => by show rl - sl ≤ rl ∧ rl ≤ rl + sl; omega⟩
  refine ⟨?_, fun h hh => ?_⟩
  · rcases k2 with rfl | ⟨l, hl, e⟩
    · obtain ⟨b1, b2⟩ := has _ hc
      have b3 := k3 _ b1
      have b4 := wUp_le ks (fun _ => rl) L.toNat
      refine ⟨_, hc, ?_⟩
      show (wUp ks (fun _ => rl) L.toNat : Int) = _
      simp only [b2] at b3
      omega
    · exact ⟨_, ok l hl, e⟩
  · obtain ⟨b1, b2⟩ := has h hh
    have b3 := k3 _ b1
    simp only [b2] at b3
    exact b3
theorem fewR_uniq {L sl rl rh wg : Int} {ks : List Kn} {n er n' er' : Int} (h : FewR L sl rl rh wg ks n er) (k : FewR L sl rl rh wg ks n' er') : n' = n ∧ er' = er := by
  rcases h with ⟨h1, rfl, rfl⟩ | ⟨h1, rfl, h2⟩ <;> rcases k with ⟨k1, rfl, rfl⟩ | ⟨k1, rfl, k2⟩
  · exact ⟨rfl, rfl⟩
  · rw [h1] at k1; cases k1
  · rw [h1] at k1; cases k1
  · obtain ⟨⟨f, f1, f2⟩, f3⟩ := h2
    obtain ⟨⟨g, g1, g2⟩, g3⟩ := k2
    have := f3 g g1
    have := g3 f f1
    exact ⟨by omega, rfl⟩
section
attribute [local go_sem ↓] mn2_run
set_option maxRecDepth 100000 in
set_option maxHeartbeats 8000000 in
theorem rfewest39 (L sl rl rh wg : Int) (A0 : Option Addr) (n0 c0 : Nat) (ks : List Kn) (w : World) (hA : Rd 3 w A0 (ks.map krow)) (hn : Hid (n0 = ks.length)) (hlen : n0 ≤ 9223372036854775807) (hfar : Hid (farB L sl rl rh wg ks = false)) :
    Calls Try.prog 39 #[.agg #[.int .i64 L, .int .i64 sl, .int .i64 rl, .int .i64 rh, .slice A0 n0 c0, .int .i64 wg]] w fun e w' => ∃ m er : Int, e = .returned (.tuple #[.int .i64 m, .int .i64 er]) ∧ Hid (FewR L sl rl rh wg ks m er) ∧ Below w.heap.size w w' := by
  have HA := Lib.hid hA
  clear hA
  have o0 : Own (w.alloc (.cells #[.int .i64 L, .int .i64 sl, .int .i64 rl, .int .i64 rh, .slice A0 n0 c0, .int .i64 wg] 26)) w.heap.size [.int .i64 L, .int .i64 sl, .int .i64 rl, .int .i64 rh, .slice A0 n0 c0, .int .i64 wg] := Own.new' _ _ rfl rfl
  have oB : Below w.heap.size w (w.alloc (.cells #[.int .i64 L, .int .i64 sl, .int .i64 rl, .int .i64 rh, .slice A0 n0 c0, .int .i64 wg] 26)) := by (repeat' (first | (with_reducible exact Below.refl _ _) | (with_reducible assumption) | (with_reducible refine Below.drew ?_) | (with_reducible refine below_drewN ?_ _) | (with_reducible refine Below.setCell ?_ ?_ _) | (with_reducible refine Below.alloc ?_ ?_ _) | (refine Below.trans ?_ (Below.mono (by with_reducible assumption) ?_)) | omega | (exact Below.size (by with_reducible assumption)) | (simp; done) | (simp; omega)))
  go_enter Try.func39, Try.ntmps39
  go_wp2_with fail
  refine (check38 L sl rl rh wg A0 n0 c0 ks _ (HA.out.below oB (Nat.le_refl _)) hn hlen).mono ?_
  cases hc : chkV L sl rl rh wg ks
  · have HN : Hid (FewR L sl rl rh wg ks 0 70) := Lib.hid (Or.inl ⟨hc, rfl, rfl⟩)
    have e70 : chkE L sl rl rh wg ks = 70 := by simp [chkE, hc]
    rw [e70]
    clear hc e70
    rintro e w1 ⟨rfl, hb1⟩
    have hB1 := Lib.hid (show Below w.heap.size w w1 by (repeat' (first | (with_reducible exact Below.refl _ _) | (with_reducible assumption) | (with_reducible refine Below.drew ?_) | (with_reducible refine below_drewN ?_ _) | (with_reducible refine Below.setCell ?_ ?_ _) | (with_reducible refine Below.alloc ?_ ?_ _) | (refine Below.trans ?_ (Below.mono (by with_reducible assumption) ?_)) | omega | (exact Below.size (by with_reducible assumption)) | (simp; done) | (simp; omega))))
    clear hb1 oB o0
    go_wp2
    go_ret2
    exact ⟨0, 70, rfl, HN, hB1.out⟩
  have e0 : chkE L sl rl rh wg ks = 0 := by simp [chkE, hc]
  rw [e0]
  have HC := Lib.hid hc
  clear e0 hc
  have hV := Lib.hid (cvV_of HC.out)
  have hbd := Lib.hid (far_rows HC.out hfar.out)
  have hl1 := hV.out.l1
  have hl2 := hV.out.l2
  have hk8 : n0 ≤ 8 := by have := hV.out.kl; have := hn.out; omega
  rintro e w1 ⟨rfl, hb1⟩
  have q0 := o0.below hb1 o0.lt
  have hB1 : Below w.heap.size w w1 := by (repeat' (first | (with_reducible exact Below.refl _ _) | (with_reducible assumption) | (with_reducible refine Below.drew ?_) | (with_reducible refine below_drewN ?_ _) | (with_reducible refine Below.setCell ?_ ?_ _) | (with_reducible refine Below.alloc ?_ ?_ _) | (refine Below.trans ?_ (Below.mono (by with_reducible assumption) ?_)) | omega | (exact Below.size (by with_reducible assumption)) | (simp; done) | (simp; omega)))
  clear o0 oB hb1
  obtain ⟨l0, k0, f0⟩ := q0
  have q0 := Own.mk l0 k0 f0
  go_wp2_with fail
  refine (all74 L sl rl rh wg (.slice A0 n0 c0) ⟨hl1, hl2⟩ ⟨hV.out.s1, hV.out.s2⟩ ⟨hV.out.r1, hV.out.r0, hV.out.r2⟩ hbd (L.toNat + 2) [] none 0 _ (by simp) (by simp) (by omega) (RdI.nil _ _) (fun a ha => by cases ha)).mono ?_
  have hlen2 : (allF L.toNat sl rl rh (L.toNat + 2) []).length ≤ 1500 := Nat.le_trans (allF_bd hV.out.s1 hV.out.r0) hbd.out
  have HFW : Hid (∀ m : Int, MnK (fun l => (wUp ks (fnL l) L.toNat : Int)) (allF L.toNat sl rl rh (L.toNat + 2) []) (allF L.toNat sl rl rh (L.toNat + 2) []).length (ks.length : Int) m → FewR L sl rl rh wg ks m 0) := Lib.hid fun m h => Or.inr ⟨HC.out, rfl, mnK_few hV.out.r0 hV.out.s1 h⟩
  have HMEM : Hid (∀ l ∈ allF L.toNat sl rl rh (L.toNat + 2) [], l.length = L.toNat + 1) := Lib.hid fun l hl => ((mem_allF (by simp) (by simp)).1 hl).2.1
  generalize allF L.toNat sl rl rh (L.toNat + 2) [] = ls at *
  rintro e w2 ⟨A2', c2', rfl, hll, hb2⟩
  have p0 := q0.below hb2 q0.lt
  have hB2 : Below w.heap.size w w2 := by (repeat' (first | (with_reducible exact Below.refl _ _) | (with_reducible assumption) | (with_reducible refine Below.drew ?_) | (with_reducible refine below_drewN ?_ _) | (with_reducible refine Below.setCell ?_ ?_ _) | (with_reducible refine Below.alloc ?_ ?_ _) | (refine Below.trans ?_ (Below.mono (by with_reducible assumption) ?_)) | omega | (exact Below.size (by with_reducible assumption)) | (simp; done) | (simp; omega)))
  have HLL := Lib.hid hll
  have hw2 : w.heap.size < w2.heap.size := p0.lt
  clear hll hb2 q0 l0 k0 f0 hB1
  obtain ⟨l0, k0, f0⟩ := p0
  have p0 := Own.mk l0 k0 f0
  go_wp2
  go_loopg [5, 7] ls.length (fun K v y wr => ∃ (k : Nat) (m : Int), K + k = ls.length ∧ y = .int .i64 k ∧ v = .int .i64 m ∧ Hid (MnK (fun l => (wUp ks (fnL l) L.toNat : Int)) ls k (ks.length : Int) m) ∧ Own wr w.heap.size [.int .i64 L, .int .i64 sl, .int .i64 rl, .int .i64 rh, .slice A0 n0 c0, .int .i64 wg] ∧ Below w.heap.size w wr ∧ Below w2.heap.size w2 wr)
  case atStart => exact ⟨0, (n0 : Int), by omega, rfl, rfl, Lib.hid (by rw [hn.out]; exact MnK.zero _ _ _), p0, hB2, Below.refl _ _⟩
  case round =>
    clear p0 l0 k0 f0 hB2
    obtain ⟨wo, rfl⟩ : ∃ wo : World, wo = wr := ⟨_, rfl⟩
    obtain ⟨k, m, hk, rfl, rfl, hm, q0, hbw, hbv⟩ := hrel
    obtain ⟨l0, k0, f0⟩ := q0
    have q0 := Own.mk l0 k0 f0
    have hzi := hbv.size
    by_cases hkn : k < ls.length
    · obtain ⟨l, hl⟩ : ∃ l, Hid (ls[k]? = some l) := ⟨ls[k]'hkn, by simp [Hid]⟩
      have hol := HMEM.out l (List.mem_of_getElem? hl.out)
      obtain ⟨b, off, A', c', hAe, hbl, hcell, hrl, hty⟩ := (HLL.out.below hbv (Nat.le_refl _)).elemT hl.out
      have hAE := Lib.hid hAe
      have hAA := hAE.out
      subst hAA
      have hmn := Lib.hid (hm.out.next hl.out)
      have hx0 := Aft.cell q0
      have hx1 := fun s : Aft wo => (Aft.old s hbl _).trans hcell
      have HR := Lib.hid (fun s' : Aft wo => wrongs47 L sl rl rh wg A0 n0 c0 ks A' l.length c' l s'.w ((HA.out.below hbw (Nat.le_refl _)).below s'.h (Nat.le_refl _)) hn hV (hrl.below s'.h (Nat.le_refl _)) (Lib.hid rfl) (by omega))
      have y0 : (k : Int) < (ls.length : Int) := by omega
      clear hrl hty hol hAe hAE hm
      generalize wUp ks (fnL l) L.toNat = wu at *
      go_wp2
      refine wp_region_aft (by kernel_rfl) (by kernel_rfl) ?_; (repeat (go_big_quiet_step ((go_at_call 47; exact aft_of (HR.out _))))); refine wpQuiet_nil ?_; rintro w9 ⟨⟨_, hb9⟩, rfl⟩
      have r0 := q0.below hb9 q0.lt
      have hB9 : Below w.heap.size w w9 := hbw.trans (hb9.mono hbw.size)
      have hV9 := hbv.trans (hb9.mono hzi)
      clear hx0 hx1 hb9 l0 k0 f0
      go_wp2
      go_roundg (ls.length - (k + 1))
      case measure => omega
      case rel => exact ⟨k + 1, _, by omega, by go_num, rfl, hmn, r0, hB9, hV9⟩
    · obtain rfl : k = ls.length := by omega
      have hres := Lib.hid (HFW.out m hm.out)
      clear hm HMEM
      go_wp2
      go_ret2
      exact ⟨m, 0, rfl, hres.out, hbw⟩
end
end Go.Proofs.Ytphcpphmoeiioaa
namespace Go.Proofs.Ytphcpphmoeiioaa
open Go.RowKit Go.Maps

theorem far_n {L sl rl rh wg : Int} {ks : List Kn} (h : farB L sl rl rh wg ks = false) : ks.length ≤ 40 := by
  unfold farB at h
  simp only [Bool.or_eq_false_iff, decide_eq_false_iff_not] at h
  omega
set_option maxRecDepth 100000 in
set_option maxHeartbeats 8000000 in
theorem same17 (L sl rl rh wg : Int) (A : Option Addr) (n cap : Nat) (ks : List Kn) (L' sl' rl' rh' wg' : Int) (A' : Option Addr) (cap' : Nat) (w : World) (hA : Rd 3 w A (ks.map krow)) (hA' : Rd 3 w A' (ks.map krow)) (hn : Hid (n = ks.length)) (hlen : n ≤ 9223372036854775807) :
    Calls Try.prog 17 #[.agg #[.int .i64 L, .int .i64 sl, .int .i64 rl, .int .i64 rh, .slice A n cap, .int .i64 wg], .agg #[.int .i64 L', .int .i64 sl', .int .i64 rl', .int .i64 rh', .slice A' n cap', .int .i64 wg']] w fun e w' => e = .returned (.bool true) ∧ Below w.heap.size w w' := by
  have HA := Lib.hid hA
  have HA' := Lib.hid hA'
  clear hA hA'
  go_enter Try.func17, Try.ntmps17
  go_wp2
  go_loopg [5] n (fun K z wr => ∃ k : Nat, K + k = n ∧ z = .int .i64 k ∧ Hid (Own wr w.heap.size [.int .i64 L, .int .i64 sl, .int .i64 rl, .int .i64 rh, .slice A n cap, .int .i64 wg]) ∧ Hid (Own wr (w.heap.size + 1) [.int .i64 L', .int .i64 sl', .int .i64 rl', .int .i64 rh', .slice A' n cap', .int .i64 wg']) ∧ Hid (Below w.heap.size w wr))
  case atStart => exact ⟨0, rfl, rfl, Lib.hid ((Own.new' _ _ rfl rfl).alloc _), Lib.hid (Own.new' _ _ (by simp) rfl), Lib.hid (by (repeat' (first | (with_reducible exact Below.refl _ _) | (with_reducible assumption) | (with_reducible refine Below.drew ?_) | (with_reducible refine below_drewN ?_ _) | (with_reducible refine Below.setCell ?_ ?_ _) | (with_reducible refine Below.alloc ?_ ?_ _) | (refine Below.trans ?_ (Below.mono (by with_reducible assumption) ?_)) | omega | (exact Below.size (by with_reducible assumption)) | (simp; done) | (simp; omega))))⟩
  case round =>
    obtain ⟨k, hK, rfl, h0, h1, hbw⟩ := hrel
    obtain ⟨l0, k0, f0⟩ := h0.out
    obtain ⟨l1, k1, f1⟩ := h1.out
    have hsz := hbw.out.size
    by_cases hlt : k < n
    · obtain ⟨q, hq⟩ : ∃ q, Hid (ks[k]? = some q) := ⟨ks[k]'(by have := hn.out; omega), by simp [Hid]⟩
      obtain ⟨b, off, hAe, hb, c0, c1, c2⟩ := rd_kn (HA.out.below hbw.out (Nat.le_refl _)) hq.out
      obtain ⟨b', off', hAe', hb', d0, d1, d2⟩ := rd_kn (HA'.out.below hbw.out (Nat.le_refl _)) hq.out
      have hAE := Lib.hid hAe
      have hAA := hAE.out
      subst hAA
      have hAE' := Lib.hid hAe'
      have hAA' := hAE'.out
      subst hAA'
      have hx0 := Aft.cell (W := wr) h0.out
      have hx1 := Aft.cell (W := wr) h1.out
      have hy0 := fun x : Aft wr => (Aft.old x hb _).trans c0
      have hy1 := fun x : Aft wr => (Aft.old x hb _).trans c1
      have hy2 := fun x : Aft wr => (Aft.old x hb _).trans c2
      have hz0 := fun x : Aft wr => (Aft.old x hb' _).trans d0
      have hz1 := fun x : Aft wr => (Aft.old x hb' _).trans d1
      have hz2 := fun x : Aft wr => (Aft.old x hb' _).trans d2
      have y0 : (k : Int) < (n : Int) := by omega
      clear hAe hAe' hAE hAE' c0 c1 c2 d0 d1 d2
      go_wp2
      refine wp_region_aft (by kernel_rfl) (by kernel_rfl) ?_; (repeat (go_big_quiet_step (fail))); refine wpQuiet_nil ?_; rintro w6 ⟨⟨_, hb6⟩, rfl⟩
      have hB6 := Lib.hid (hbw.out.trans (hb6.mono hsz))
      have r0 := Lib.hid (h0.out.below hb6 l0)
      have r1 := Lib.hid (h1.out.below hb6 l1)
      clear hx0 hx1 hy0 hy1 hy2 hz0 hz1 hz2 hb6 l0 k0 f0 l1 k1 f1
      go_wp2
      go_roundg (n - (k + 1))
      case measure => omega
      case rel => exact ⟨k + 1, by omega, by go_num, r0, r1, hB6⟩
    · obtain rfl : k = n := by omega
      go_wp2
      go_ret
      exact ⟨rfl, hbw.out⟩
end Go.Proofs.Ytphcpphmoeiioaa
namespace Go.Proofs.Ytphcpphmoeiioaa
open Go.RowKit Go.Maps

theorem opH_uniq {L sl rl rh wg : Int} {ks : List Kn} {is : Bool} {er er' : Int} (h : OpenR L sl rl rh wg ks is er) (k : OpenR L sl rl rh wg ks is er') : er = er' := by
  rcases h with ⟨h1, rfl⟩ | ⟨h1, h2, rfl⟩ | ⟨h1, h2, rfl, h4⟩ | ⟨h1, h2, rfl, h4⟩ <;> rcases k with ⟨k1, rfl⟩ | ⟨k1, k2, rfl⟩ | ⟨k1, k2, rfl, k4⟩ | ⟨k1, k2, rfl, k4⟩ <;> simp_all
section
variable {L sl rl rh wg : Int} {ks : List Kn}
theorem openR_chk {is : Bool} {er : Int} (h : OpenR L sl rl rh wg ks is er) (e : er = 0) : chkV L sl rl rh wg ks = true := by
  subst e
  rcases h with ⟨_, h⟩ | ⟨_, _, h⟩ | ⟨_, _, h, _⟩ | ⟨h, _⟩
  · omega
  · omega
  · omega
  · exact h
theorem lvR_uniq {lv a b v er v' er' : Int} (h : LvR L sl rl rh wg ks lv a b v er) (k : LvR L sl rl rh wg ks lv a b v' er') : v' = v ∧ er' = er := by
  have e := opH_uniq h.1 k.1
  subst e
  refine ⟨?_, rfl⟩
  by_cases he : er = 0
  · rcases h.2.1 he with ⟨rfl, h1⟩ | ⟨rfl, h1, h2⟩ | ⟨rfl, h1, h2⟩ <;> rcases k.2.1 he with ⟨rfl, k1⟩ | ⟨rfl, k1, k2⟩ | ⟨rfl, k1, k2⟩ <;> first | rfl | exact absurd h1 k1 | exact absurd k1 h1 | exact absurd h2 k2 | exact absurd k2 h2
  · rw [h.2.2 he, k.2.2 he]
theorem lnR_uniq {p lo hi er lo' hi' er' : Int} (h : LeanR L sl rl rh wg ks p lo hi er) (k : LeanR L sl rl rh wg ks p lo' hi' er') : lo' = lo ∧ hi' = hi ∧ er' = er := by
  have e := opH_uniq h.1 k.1
  subst e
  by_cases he : er = 0
  · obtain ⟨h1, h2⟩ := (k.2.1 he).uniq (h.2.1 he)
    exact ⟨h1, h2, rfl⟩
  · obtain ⟨rfl, rfl⟩ := h.2.2 he
    obtain ⟨rfl, rfl⟩ := k.2.2 he
    exact ⟨rfl, rfl, rfl⟩
theorem htR_uniq {p lo hi er lo' hi' er' : Int} (h : HeightR L sl rl rh wg ks p lo hi er) (k : HeightR L sl rl rh wg ks p lo' hi' er') : lo' = lo ∧ hi' = hi ∧ er' = er := by
  have e := opH_uniq h.1 k.1
  subst e
  by_cases he : er = 0
  · obtain ⟨h1, h2⟩ := (k.2.1 he).uniq (h.2.1 he)
    exact ⟨h1, h2, rfl⟩
  · obtain ⟨rfl, rfl⟩ := h.2.2 he
    obtain ⟨rfl, rfl⟩ := k.2.2 he
    exact ⟨rfl, rfl, rfl⟩
end
theorem lean35g (L sl rl rh wg : Int) (A : Option Addr) (n cap : Nat) (ks : List Kn) (p : Int) (w : World) (hA : Rd 3 w A (ks.map krow)) (hn : Hid (n = ks.length)) (hlen : n ≤ 9223372036854775807) :
    Calls Try.prog 35 #[.agg #[.int .i64 L, .int .i64 sl, .int .i64 rl, .int .i64 rh, .slice A n cap, .int .i64 wg], .int .i64 p] w fun e w' => ∃ lo hi er : Int, e = .returned (.tuple #[.agg #[.int .i64 lo, .int .i64 hi], .int .i64 er]) ∧ Hid (LeanR L sl rl rh wg ks p lo hi er) ∧ Below w.heap.size w w' := by
  cases hc : chkV L sl rl rh wg ks
  · exact lean35n L sl rl rh wg A n cap ks p w hA hn hlen (Lib.hid hc)
  · have hV := cvV_of hc
    exact lean35 L sl rl rh wg A n cap ks p w hA hn hlen ⟨hV.l1, hV.l2⟩ ⟨hV.s1, hV.s2⟩
theorem level42g (L sl rl rh wg : Int) (A : Option Addr) (n cap : Nat) (ks : List Kn) (lv a b : Int) (w : World) (hA : Rd 3 w A (ks.map krow)) (hn : Hid (n = ks.length)) (hlen : n ≤ 9223372036854775807) :
    Calls Try.prog 42 #[.agg #[.int .i64 L, .int .i64 sl, .int .i64 rl, .int .i64 rh, .slice A n cap, .int .i64 wg], .int .i64 lv, .int .i64 a, .int .i64 b] w fun e w' => ∃ v er : Int, e = .returned (.tuple #[.int .i64 v, .int .i64 er]) ∧ Hid (LvR L sl rl rh wg ks lv a b v er) ∧ Below w.heap.size w w' := by
  cases hl : btw lv (-100) 100
  · refine (level42n1 L sl rl rh wg A n cap ks lv a b w hA hn hlen (Lib.hid hl)).mono ?_
    rintro e w' ⟨er, rfl, h, hb⟩
    exact ⟨0, er, rfl, Lib.hid ⟨by rw [hl, Bool.false_and]; exact h.out.2, fun e => absurd e h.out.1, fun _ => rfl⟩, hb⟩
  cases ha : btw a 0 L
  · refine (level42n2 L sl rl rh wg A n cap ks lv a b w hA hn hlen (Lib.hid hl) (Lib.hid ha)).mono ?_
    rintro e w' ⟨er, rfl, h, hb⟩
    exact ⟨0, er, rfl, Lib.hid ⟨by rw [hl, ends_eq, ha, Bool.false_and, Bool.false_and, Bool.and_false]; exact h.out.2, fun e => absurd e h.out.1, fun _ => rfl⟩, hb⟩
  cases hb0 : btw b 0 L
  · refine (level42n3 L sl rl rh wg A n cap ks lv a b w hA hn hlen (Lib.hid hl) (Lib.hid ha) (Lib.hid hb0)).mono ?_
    rintro e w' ⟨er, rfl, h, hb⟩
    exact ⟨0, er, rfl, Lib.hid ⟨by rw [hl, ends_eq, hb0, Bool.and_false, Bool.false_and, Bool.and_false]; exact h.out.2, fun e => absurd e h.out.1, fun _ => rfl⟩, hb⟩
  by_cases hO : OpenR L sl rl rh wg ks (decide (a ≤ b)) 0
  · have hz := openR_zero hO rfl
    have hab := of_decide_eq_true hz.2.1
    have la := btw_iff.1 ha
    have lb := btw_iff.1 hb0
    refine (level42t L sl rl rh wg A n cap ks lv a b w hA hn hlen (Lib.hid (openR_chk hO rfl)) (Lib.hid hz.2.2) (btw_iff.1 hl) la.1 hab lb.2).mono ?_
    rintro e w' ⟨v, rfl, h, hb⟩
    exact ⟨v, 0, rfl, Lib.hid ⟨by rw [hl, ends_eq, ha, hb0, Bool.true_and, Bool.true_and, Bool.true_and]; exact hO, fun _ => h.out, fun e => absurd rfl e⟩, hb⟩
  · refine (level42n4 L sl rl rh wg A n cap ks lv a b w hA hn hlen (Lib.hid hl) (Lib.hid ha) (Lib.hid hb0) (Lib.hid fun er h e => hO (by rw [← e]; exact h))).mono ?_
    rintro e w' ⟨er, rfl, h, hb⟩
    exact ⟨0, er, rfl, Lib.hid ⟨by rw [hl, ends_eq, ha, hb0, Bool.true_and, Bool.true_and, Bool.true_and]; exact h.out.2, fun e => absurd e h.out.1, fun _ => rfl⟩, hb⟩
end Go.Proofs.Ytphcpphmoeiioaa
namespace Go.Proofs.Ytphcpphmoeiioaa
open Go.RowKit Go.Maps

set_option maxRecDepth 100000 in
set_option maxHeartbeats 8000000 in
theorem lheight10 (L sl rl rh wg : Int) (A : Option Addr) (n cap : Nat) (ks : List Kn) (a b lv : Int) (w : World) (hA : Rd 3 w A (ks.map krow)) (hn : Hid (n = ks.length)) (hlen : n ≤ 9223372036854775807) :
    Calls Try.prog 10 #[.agg #[.int .i64 L, .int .i64 sl, .int .i64 rl, .int .i64 rh, .slice A n cap, .int .i64 wg], .agg #[.int .i64 a, .int .i64 b, .int .i64 lv]] w fun e w' => e = .returned (.bool true) ∧ Below w.heap.size w w' := by
  have HA := Lib.hid hA
  clear hA
  cases hf : farB L sl rl rh wg ks
  rotate_left
  · go_enter Try.func10, Try.ntmps10
    go_wp2_with fail
    refine (far12 L sl rl rh wg A n cap ks _ (HA.out.below (B := w.heap.size) (by (repeat' (first | (with_reducible exact Below.refl _ _) | (with_reducible assumption) | (with_reducible refine Below.drew ?_) | (with_reducible refine below_drewN ?_ _) | (with_reducible refine Below.setCell ?_ ?_ _) | (with_reducible refine Below.alloc ?_ ?_ _) | (refine Below.trans ?_ (Below.mono (by with_reducible assumption) ?_)) | omega | (exact Below.size (by with_reducible assumption)) | (simp; done) | (simp; omega)))) (Nat.le_refl _)) hn hlen).mono ?_
    rw [hf]
    rintro e w1 ⟨rfl, hb1⟩
    have hB1 : Below w.heap.size w w1 := by (repeat' (first | (with_reducible exact Below.refl _ _) | (with_reducible assumption) | (with_reducible refine Below.drew ?_) | (with_reducible refine below_drewN ?_ _) | (with_reducible refine Below.setCell ?_ ?_ _) | (with_reducible refine Below.alloc ?_ ?_ _) | (refine Below.trans ?_ (Below.mono (by with_reducible assumption) ?_)) | omega | (exact Below.size (by with_reducible assumption)) | (simp; done) | (simp; omega)))
    clear hb1 hf
    go_wp2_with fail
    refine (works13 _).mono ?_
    rintro e w2 ⟨rfl, hb2⟩
    have hB2 := hB1.trans (hb2.mono hB1.size)
    go_wp2
    go_ret
    exact ⟨rfl, hB2⟩
  have HF := Lib.hid hf
  have hn40 : n ≤ 40 := by have := far_n hf; have := hn.out; omega
  clear hf
  go_enter Try.func10, Try.ntmps10
  go_wp2_with fail
  refine (far12 L sl rl rh wg A n cap ks _ (HA.out.below (B := w.heap.size) (by (repeat' (first | (with_reducible exact Below.refl _ _) | (with_reducible assumption) | (with_reducible refine Below.drew ?_) | (with_reducible refine below_drewN ?_ _) | (with_reducible refine Below.setCell ?_ ?_ _) | (with_reducible refine Below.alloc ?_ ?_ _) | (refine Below.trans ?_ (Below.mono (by with_reducible assumption) ?_)) | omega | (exact Below.size (by with_reducible assumption)) | (simp; done) | (simp; omega)))) (Nat.le_refl _)) hn hlen).mono ?_
  rw [HF.out]
  rintro e w1 ⟨rfl, hb1⟩
  have q0 := Lib.hid (show Own w1 w.heap.size [.int .i64 L, .int .i64 sl, .int .i64 rl, .int .i64 rh, .slice A n cap, .int .i64 wg] from ((Own.new' _ _ rfl rfl).alloc _).below hb1 (by simp only [World.size_alloc]; omega))
  have q1 := Lib.hid (show Own w1 (w.heap.size + 1) [.int .i64 a, .int .i64 b, .int .i64 lv] from (Own.new' _ _ (by simp) rfl).below hb1 (by simp only [World.size_alloc]; omega))
  have hB1 := Lib.hid (show Below w.heap.size w w1 by (repeat' (first | (with_reducible exact Below.refl _ _) | (with_reducible assumption) | (with_reducible refine Below.drew ?_) | (with_reducible refine below_drewN ?_ _) | (with_reducible refine Below.setCell ?_ ?_ _) | (with_reducible refine Below.alloc ?_ ?_ _) | (refine Below.trans ?_ (Below.mono (by with_reducible assumption) ?_)) | omega | (exact Below.size (by with_reducible assumption)) | (simp; done) | (simp; omega))))
  clear hb1
  obtain ⟨x00, x01, x02⟩ := q0.out
  obtain ⟨x10, x11, x12⟩ := q1.out
  go_wp2_with fail
  refine (copy14 L sl rl rh wg A n cap ks _ (HA.out.below hB1.out (Nat.le_refl _)) hn hn40).mono ?_
  rintro e w2 ⟨A', cap', rfl, hG, hb2⟩
  have hB2 := Lib.hid (hB1.out.trans (hb2.mono hB1.out.size))
  have q02 := Lib.hid (q0.out.below hb2 x00)
  have q12 := Lib.hid (q1.out.below hb2 x10)
  have HG := Lib.hid (show Rd 3 w2 A' (ks.map krow) by obtain ⟨_, _, e, h⟩ := hG.out; cases e; exact h)
  clear hb2 x00 x01 x02 x10 x11 x12 hG q0 q1 hB1
  obtain ⟨x00, x01, x02⟩ := q02.out
  obtain ⟨x10, x11, x12⟩ := q12.out
  have hO3 : Own (w2.alloc (.cells #[.int .i64 L, .int .i64 sl, .int .i64 rl, .int .i64 rh, .slice A' n cap', .int .i64 wg] 26)) w2.heap.size [.int .i64 L, .int .i64 sl, .int .i64 rl, .int .i64 rh, .slice A' n cap', .int .i64 wg] := Own.new' _ _ rfl rfl
  have hO0 := q02.out.alloc (.cells #[.int .i64 L, .int .i64 sl, .int .i64 rl, .int .i64 rh, .slice A' n cap', .int .i64 wg] 26)
  have hO1 := q12.out.alloc (.cells #[.int .i64 L, .int .i64 sl, .int .i64 rl, .int .i64 rh, .slice A' n cap', .int .i64 wg] 26)
  have hWB : Below w2.heap.size w2 (w2.alloc (.cells #[.int .i64 L, .int .i64 sl, .int .i64 rl, .int .i64 rh, .slice A' n cap', .int .i64 wg] 26)) := by (repeat' (first | (with_reducible exact Below.refl _ _) | (with_reducible assumption) | (with_reducible refine Below.drew ?_) | (with_reducible refine below_drewN ?_ _) | (with_reducible refine Below.setCell ?_ ?_ _) | (with_reducible refine Below.alloc ?_ ?_ _) | (refine Below.trans ?_ (Below.mono (by with_reducible assumption) ?_)) | omega | (exact Below.size (by with_reducible assumption)) | (simp; done) | (simp; omega)))
  have hWW : Below w.heap.size w (w2.alloc (.cells #[.int .i64 L, .int .i64 sl, .int .i64 rl, .int .i64 rh, .slice A' n cap', .int .i64 wg] 26)) := hB2.out.alloc hB2.out.size _
  obtain ⟨W, hW⟩ : ∃ W, Hid (W = w2.alloc (.cells #[.int .i64 L, .int .i64 sl, .int .i64 rl, .int .i64 rh, .slice A' n cap', .int .i64 wg] 26)) := ⟨_, rfl⟩
  rw [← hW.out] at hO3 hO0 hO1 hWB hWW
  have hx0 := Aft.cell hO0
  have hx1 := Aft.cell hO3
  obtain ⟨ce, hce⟩ : ∃ ce, Hid (ce = chkE L sl rl rh wg ks) := ⟨_, rfl⟩
  have HR1 := Lib.hid (fun s' : Aft W => check37 L sl rl rh wg A' n cap' ks s'.w ((HG.out.below hWB (Nat.le_refl _)).below s'.h (Nat.le_refl _)) hn hlen)
  have HR2 := Lib.hid (fun s' : Aft W => check38 L sl rl rh wg A n cap ks s'.w ((HA.out.below hWW (Nat.le_refl _)).below s'.h (Nat.le_refl _)) hn hlen)
  rw [← hce.out] at HR1 HR2
  have HO3 := Lib.hid hO3
  have HO0 := Lib.hid hO0
  have HO1 := Lib.hid hO1
  have HWB := Lib.hid hWB
  have HWW := Lib.hid hWW
  clear hO3 hO0 hO1 hWB hWW
  go_wp2
  rw [← hW.out]
  refine wp_region_aft (by kernel_rfl) (by kernel_rfl) ?_; (repeat (go_big_quiet_step ((first | (go_at_call 37; exact aft_of (HR1.out _)) | (go_at_call 38; exact aft_of (HR2.out _)))))); refine wpQuiet_nil ?_; rintro w4 ⟨⟨_, hb4⟩, rfl⟩
  have q02 := Lib.hid (HO0.out.below hb4 HO0.out.lt)
  have q12 := Lib.hid (HO1.out.below hb4 HO1.out.lt)
  have q22 := Lib.hid (HO3.out.below hb4 HO3.out.lt)
  have hB2 := Lib.hid (HWW.out.trans (hb4.mono HWW.out.size))
  have HG := Lib.hid (show Rd 3 w4 A' (ks.map krow) from (HG.out.below HWB.out (Nat.le_refl _)).below hb4 (Nat.le_refl _))
  clear hb4 hx0 hx1 HO0 HO1 HO3 HWB HWW HR1 HR2 hce hW x00 x01 x02 x10 x11 x12
  obtain ⟨x00, x01, x02⟩ := q02.out
  obtain ⟨x10, x11, x12⟩ := q12.out
  obtain ⟨x20, x21, x22⟩ := q22.out
  go_wp2_with fail
  refine calls_gen fun W5 hW5 => ?_
  have p0 : Own W5 w.heap.size [.int .i64 L, .int .i64 sl, .int .i64 rl, .int .i64 rh, .slice A n cap, .int .i64 wg] := by rw [hW5]; exact q02.out
  have p1 : Own W5 (w.heap.size + 1) [.int .i64 a, .int .i64 b, .int .i64 lv] := by rw [hW5]; exact q12.out
  have p2 : Own W5 w2.heap.size [.int .i64 L, .int .i64 sl, .int .i64 rl, .int .i64 rh, .slice A' n cap', .int .i64 wg] := by rw [hW5]; exact q22.out
  have hBp : Below w.heap.size w W5 := by rw [hW5]; exact hB2.out
  have HGp := Lib.hid (show Rd 3 W5 A' (ks.map krow) from HG.out.below (show Below w4.heap.size w4 W5 by rw [hW5]; exact Below.refl _ _) (Nat.le_refl _))
  clear hW5 x00 x01 x02 x10 x11 x12 x20 x21 x22 q02 q12 q22 hB2 HG
  refine (fewest34 L sl rl rh wg A' n cap' ks W5 (show Rd 3 W5 A' (ks.map krow) from HGp.out) hn hlen).mono ?_
  rintro e w5 ⟨m, er0, rfl, h0, hb⟩
  have q02 := Lib.hid (p0.below hb p0.lt)
  have q12 := Lib.hid (p1.below hb p1.lt)
  have q22 := Lib.hid (p2.below hb p2.lt)
  have hB2 := Lib.hid (hBp.trans (hb.mono hBp.size))
  have HG := Lib.hid (show Rd 3 w5 A' (ks.map krow) from HGp.out.below hb (Nat.le_refl _))
  clear hb hBp p0 p1 p2 HGp 
  obtain ⟨x00, x01, x02⟩ := q02.out
  obtain ⟨x10, x11, x12⟩ := q12.out
  obtain ⟨x20, x21, x22⟩ := q22.out
  go_wp2_with fail
  refine calls_gen fun W6 hW6 => ?_
  have p0 : Own W6 w.heap.size [.int .i64 L, .int .i64 sl, .int .i64 rl, .int .i64 rh, .slice A n cap, .int .i64 wg] := by rw [hW6]; exact q02.out
  have p1 : Own W6 (w.heap.size + 1) [.int .i64 a, .int .i64 b, .int .i64 lv] := by rw [hW6]; exact q12.out
  have p2 : Own W6 w2.heap.size [.int .i64 L, .int .i64 sl, .int .i64 rl, .int .i64 rh, .slice A' n cap', .int .i64 wg] := by rw [hW6]; exact q22.out
  have hBp : Below w.heap.size w W6 := by rw [hW6]; exact hB2.out
  have HGp := Lib.hid (show Rd 3 W6 A' (ks.map krow) from HG.out.below (show Below w5.heap.size w5 W6 by rw [hW6]; exact Below.refl _ _) (Nat.le_refl _))
  clear hW6 x00 x01 x02 x10 x11 x12 x20 x21 x22 q02 q12 q22 hB2 HG
  refine (rfewest39 L sl rl rh wg A n cap ks W6 (HA.out.below hBp (Nat.le_refl _)) hn hlen HF).mono ?_
  rintro e w6 ⟨m', er0', rfl, h0', hb⟩
  obtain ⟨z1, z2⟩ := fewR_uniq h0.out h0'.out
  obtain rfl := z1.symm
  obtain rfl := z2.symm
  have q02 := Lib.hid (p0.below hb p0.lt)
  have q12 := Lib.hid (p1.below hb p1.lt)
  have q22 := Lib.hid (p2.below hb p2.lt)
  have hB2 := Lib.hid (hBp.trans (hb.mono hBp.size))
  have HG := Lib.hid (show Rd 3 w6 A' (ks.map krow) from HGp.out.below hb (Nat.le_refl _))
  clear hb hBp p0 p1 p2 HGp h0 h0'
  obtain ⟨x00, x01, x02⟩ := q02.out
  obtain ⟨x10, x11, x12⟩ := q12.out
  obtain ⟨x20, x21, x22⟩ := q22.out
  go_wp2_with fail
  refine calls_gen fun W7 hW7 => ?_
  have p0 : Own W7 w.heap.size [.int .i64 L, .int .i64 sl, .int .i64 rl, .int .i64 rh, .slice A n cap, .int .i64 wg] := by rw [hW7]; exact q02.out
  have p1 : Own W7 (w.heap.size + 1) [.int .i64 a, .int .i64 b, .int .i64 lv] := by rw [hW7]; exact q12.out
  have p2 : Own W7 w2.heap.size [.int .i64 L, .int .i64 sl, .int .i64 rl, .int .i64 rh, .slice A' n cap', .int .i64 wg] := by rw [hW7]; exact q22.out
  have hBp : Below w.heap.size w W7 := by rw [hW7]; exact hB2.out
  have HGp := Lib.hid (show Rd 3 W7 A' (ks.map krow) from HG.out.below (show Below w6.heap.size w6 W7 by rw [hW7]; exact Below.refl _ _) (Nat.le_refl _))
  clear hW7 x00 x01 x02 x10 x11 x12 x20 x21 x22 q02 q12 q22 hB2 HG
  refine (height31 L sl rl rh wg A' n cap' ks a W7 (show Rd 3 W7 A' (ks.map krow) from HGp.out) hn hlen).mono ?_
  rintro e w7 ⟨lo1, hi1, er1, rfl, h1, hb⟩
  have q02 := Lib.hid (p0.below hb p0.lt)
  have q12 := Lib.hid (p1.below hb p1.lt)
  have q22 := Lib.hid (p2.below hb p2.lt)
  have hB2 := Lib.hid (hBp.trans (hb.mono hBp.size))
  have HG := Lib.hid (show Rd 3 w7 A' (ks.map krow) from HGp.out.below hb (Nat.le_refl _))
  clear hb hBp p0 p1 p2 HGp 
  obtain ⟨x00, x01, x02⟩ := q02.out
  obtain ⟨x10, x11, x12⟩ := q12.out
  obtain ⟨x20, x21, x22⟩ := q22.out
  go_wp2_with fail
  refine calls_gen fun W8 hW8 => ?_
  have p0 : Own W8 w.heap.size [.int .i64 L, .int .i64 sl, .int .i64 rl, .int .i64 rh, .slice A n cap, .int .i64 wg] := by rw [hW8]; exact q02.out.alloc _
  have p1 : Own W8 (w.heap.size + 1) [.int .i64 a, .int .i64 b, .int .i64 lv] := by rw [hW8]; exact q12.out.alloc _
  have p2 : Own W8 w2.heap.size [.int .i64 L, .int .i64 sl, .int .i64 rl, .int .i64 rh, .slice A' n cap', .int .i64 wg] := by rw [hW8]; exact q22.out.alloc _
  have p3 : Own W8 w7.heap.size [.int .i64 lo1, .int .i64 hi1] := by rw [hW8]; exact Own.new' _ _ rfl rfl
  have hBp : Below w.heap.size w W8 := by rw [hW8]; exact hB2.out.alloc hB2.out.size _
  have HGp := Lib.hid (show Rd 3 W8 A' (ks.map krow) from HG.out.below (show Below w7.heap.size w7 W8 by rw [hW8]; (repeat' (first | (with_reducible exact Below.refl _ _) | (with_reducible assumption) | (with_reducible refine Below.drew ?_) | (with_reducible refine below_drewN ?_ _) | (with_reducible refine Below.setCell ?_ ?_ _) | (with_reducible refine Below.alloc ?_ ?_ _) | (refine Below.trans ?_ (Below.mono (by with_reducible assumption) ?_)) | omega | (exact Below.size (by with_reducible assumption)) | (simp; done) | (simp; omega)))) (Nat.le_refl _))
  clear hW8 x00 x01 x02 x10 x11 x12 x20 x21 x22 q02 q12 q22 hB2 HG
  refine (rheight40 L sl rl rh wg A n cap ks a W8 (HA.out.below hBp (Nat.le_refl _)) hn hlen HF).mono ?_
  rintro e w8 ⟨lo1', hi1', er1', rfl, h1', hb⟩
  obtain ⟨z1, z2, z3⟩ := htR_uniq h1.out h1'.out
  obtain rfl := z1.symm
  obtain rfl := z2.symm
  obtain rfl := z3.symm
  have q02 := Lib.hid (p0.below hb p0.lt)
  have q12 := Lib.hid (p1.below hb p1.lt)
  have q22 := Lib.hid (p2.below hb p2.lt)
  have q32 := Lib.hid (p3.below hb p3.lt)
  have hB2 := Lib.hid (hBp.trans (hb.mono hBp.size))
  have HG := Lib.hid (show Rd 3 w8 A' (ks.map krow) from HGp.out.below hb (Nat.le_refl _))
  clear hb hBp p0 p1 p2 p3 HGp h1 h1'
  obtain ⟨x00, x01, x02⟩ := q02.out
  obtain ⟨x10, x11, x12⟩ := q12.out
  obtain ⟨x20, x21, x22⟩ := q22.out
  obtain ⟨x30, x31, x32⟩ := q32.out
  go_wp2_with fail
  refine calls_gen fun W9 hW9 => ?_
  have p0 : Own W9 w.heap.size [.int .i64 L, .int .i64 sl, .int .i64 rl, .int .i64 rh, .slice A n cap, .int .i64 wg] := by rw [hW9]; exact q02.out.alloc _
  have p1 : Own W9 (w.heap.size + 1) [.int .i64 a, .int .i64 b, .int .i64 lv] := by rw [hW9]; exact q12.out.alloc _
  have p2 : Own W9 w2.heap.size [.int .i64 L, .int .i64 sl, .int .i64 rl, .int .i64 rh, .slice A' n cap', .int .i64 wg] := by rw [hW9]; exact q22.out.alloc _
  have p3 : Own W9 w7.heap.size [.int .i64 lo1, .int .i64 hi1] := by rw [hW9]; exact q32.out.alloc _
  have p4 : Own W9 w8.heap.size [.int .i64 lo1, .int .i64 hi1] := by rw [hW9]; exact Own.new' _ _ rfl rfl
  have hBp : Below w.heap.size w W9 := by rw [hW9]; exact hB2.out.alloc hB2.out.size _
  have HGp := Lib.hid (show Rd 3 W9 A' (ks.map krow) from HG.out.below (show Below w8.heap.size w8 W9 by rw [hW9]; (repeat' (first | (with_reducible exact Below.refl _ _) | (with_reducible assumption) | (with_reducible refine Below.drew ?_) | (with_reducible refine below_drewN ?_ _) | (with_reducible refine Below.setCell ?_ ?_ _) | (with_reducible refine Below.alloc ?_ ?_ _) | (refine Below.trans ?_ (Below.mono (by with_reducible assumption) ?_)) | omega | (exact Below.size (by with_reducible assumption)) | (simp; done) | (simp; omega)))) (Nat.le_refl _))
  clear hW9 x00 x01 x02 x10 x11 x12 x20 x21 x22 x30 x31 x32 q02 q12 q22 q32 hB2 HG
  refine (lean35g L sl rl rh wg A' n cap' ks a W9 (show Rd 3 W9 A' (ks.map krow) from HGp.out) hn hlen).mono ?_
  rintro e w9 ⟨lo2, hi2, er2, rfl, h2, hb⟩
  have q02 := Lib.hid (p0.below hb p0.lt)
  have q12 := Lib.hid (p1.below hb p1.lt)
  have q22 := Lib.hid (p2.below hb p2.lt)
  have q32 := Lib.hid (p3.below hb p3.lt)
  have q42 := Lib.hid (p4.below hb p4.lt)
  have hB2 := Lib.hid (hBp.trans (hb.mono hBp.size))
  have HG := Lib.hid (show Rd 3 w9 A' (ks.map krow) from HGp.out.below hb (Nat.le_refl _))
  clear hb hBp p0 p1 p2 p3 p4 HGp 
  obtain ⟨x00, x01, x02⟩ := q02.out
  obtain ⟨x10, x11, x12⟩ := q12.out
  obtain ⟨x20, x21, x22⟩ := q22.out
  obtain ⟨x30, x31, x32⟩ := q32.out
  obtain ⟨x40, x41, x42⟩ := q42.out
  go_wp2_with fail
  refine calls_gen fun W10 hW10 => ?_
  have p0 : Own W10 w.heap.size [.int .i64 L, .int .i64 sl, .int .i64 rl, .int .i64 rh, .slice A n cap, .int .i64 wg] := by rw [hW10]; exact q02.out.alloc _
  have p1 : Own W10 (w.heap.size + 1) [.int .i64 a, .int .i64 b, .int .i64 lv] := by rw [hW10]; exact q12.out.alloc _
  have p2 : Own W10 w2.heap.size [.int .i64 L, .int .i64 sl, .int .i64 rl, .int .i64 rh, .slice A' n cap', .int .i64 wg] := by rw [hW10]; exact q22.out.alloc _
  have p3 : Own W10 w7.heap.size [.int .i64 lo1, .int .i64 hi1] := by rw [hW10]; exact q32.out.alloc _
  have p4 : Own W10 w8.heap.size [.int .i64 lo1, .int .i64 hi1] := by rw [hW10]; exact q42.out.alloc _
  have p5 : Own W10 w9.heap.size [.int .i64 lo2, .int .i64 hi2] := by rw [hW10]; exact Own.new' _ _ rfl rfl
  have hBp : Below w.heap.size w W10 := by rw [hW10]; exact hB2.out.alloc hB2.out.size _
  have HGp := Lib.hid (show Rd 3 W10 A' (ks.map krow) from HG.out.below (show Below w9.heap.size w9 W10 by rw [hW10]; (repeat' (first | (with_reducible exact Below.refl _ _) | (with_reducible assumption) | (with_reducible refine Below.drew ?_) | (with_reducible refine below_drewN ?_ _) | (with_reducible refine Below.setCell ?_ ?_ _) | (with_reducible refine Below.alloc ?_ ?_ _) | (refine Below.trans ?_ (Below.mono (by with_reducible assumption) ?_)) | omega | (exact Below.size (by with_reducible assumption)) | (simp; done) | (simp; omega)))) (Nat.le_refl _))
  clear hW10 x00 x01 x02 x10 x11 x12 x20 x21 x22 x30 x31 x32 x40 x41 x42 q02 q12 q22 q32 q42 hB2 HG
  refine (rlean41 L sl rl rh wg A n cap ks a W10 (HA.out.below hBp (Nat.le_refl _)) hn hlen HF).mono ?_
  rintro e w10 ⟨lo2', hi2', er2', rfl, h2', hb⟩
  obtain ⟨z1, z2, z3⟩ := lnR_uniq h2.out h2'.out
  obtain rfl := z1.symm
  obtain rfl := z2.symm
  obtain rfl := z3.symm
  have q02 := Lib.hid (p0.below hb p0.lt)
  have q12 := Lib.hid (p1.below hb p1.lt)
  have q22 := Lib.hid (p2.below hb p2.lt)
  have q32 := Lib.hid (p3.below hb p3.lt)
  have q42 := Lib.hid (p4.below hb p4.lt)
  have q52 := Lib.hid (p5.below hb p5.lt)
  have hB2 := Lib.hid (hBp.trans (hb.mono hBp.size))
  have HG := Lib.hid (show Rd 3 w10 A' (ks.map krow) from HGp.out.below hb (Nat.le_refl _))
  clear hb hBp p0 p1 p2 p3 p4 p5 HGp h2 h2'
  obtain ⟨x00, x01, x02⟩ := q02.out
  obtain ⟨x10, x11, x12⟩ := q12.out
  obtain ⟨x20, x21, x22⟩ := q22.out
  obtain ⟨x30, x31, x32⟩ := q32.out
  obtain ⟨x40, x41, x42⟩ := q42.out
  obtain ⟨x50, x51, x52⟩ := q52.out
  go_wp2_with fail
  refine calls_gen fun W11 hW11 => ?_
  have p0 : Own W11 w.heap.size [.int .i64 L, .int .i64 sl, .int .i64 rl, .int .i64 rh, .slice A n cap, .int .i64 wg] := by rw [hW11]; exact q02.out.alloc _
  have p1 : Own W11 (w.heap.size + 1) [.int .i64 a, .int .i64 b, .int .i64 lv] := by rw [hW11]; exact q12.out.alloc _
  have p2 : Own W11 w2.heap.size [.int .i64 L, .int .i64 sl, .int .i64 rl, .int .i64 rh, .slice A' n cap', .int .i64 wg] := by rw [hW11]; exact q22.out.alloc _
  have p3 : Own W11 w7.heap.size [.int .i64 lo1, .int .i64 hi1] := by rw [hW11]; exact q32.out.alloc _
  have p4 : Own W11 w8.heap.size [.int .i64 lo1, .int .i64 hi1] := by rw [hW11]; exact q42.out.alloc _
  have p5 : Own W11 w9.heap.size [.int .i64 lo2, .int .i64 hi2] := by rw [hW11]; exact q52.out.alloc _
  have p6 : Own W11 w10.heap.size [.int .i64 lo2, .int .i64 hi2] := by rw [hW11]; exact Own.new' _ _ rfl rfl
  have hBp : Below w.heap.size w W11 := by rw [hW11]; exact hB2.out.alloc hB2.out.size _
  have HGp := Lib.hid (show Rd 3 W11 A' (ks.map krow) from HG.out.below (show Below w10.heap.size w10 W11 by rw [hW11]; (repeat' (first | (with_reducible exact Below.refl _ _) | (with_reducible assumption) | (with_reducible refine Below.drew ?_) | (with_reducible refine below_drewN ?_ _) | (with_reducible refine Below.setCell ?_ ?_ _) | (with_reducible refine Below.alloc ?_ ?_ _) | (refine Below.trans ?_ (Below.mono (by with_reducible assumption) ?_)) | omega | (exact Below.size (by with_reducible assumption)) | (simp; done) | (simp; omega)))) (Nat.le_refl _))
  clear hW11 x00 x01 x02 x10 x11 x12 x20 x21 x22 x30 x31 x32 x40 x41 x42 x50 x51 x52 q02 q12 q22 q32 q42 q52 hB2 HG
  refine (level42g L sl rl rh wg A' n cap' ks lv a b W11 (show Rd 3 W11 A' (ks.map krow) from HGp.out) hn hlen).mono ?_
  rintro e w11 ⟨v, er3, rfl, h3, hb⟩
  have q02 := Lib.hid (p0.below hb p0.lt)
  have q12 := Lib.hid (p1.below hb p1.lt)
  have q22 := Lib.hid (p2.below hb p2.lt)
  have q32 := Lib.hid (p3.below hb p3.lt)
  have q42 := Lib.hid (p4.below hb p4.lt)
  have q52 := Lib.hid (p5.below hb p5.lt)
  have q62 := Lib.hid (p6.below hb p6.lt)
  have hB2 := Lib.hid (hBp.trans (hb.mono hBp.size))
  have HG := Lib.hid (show Rd 3 w11 A' (ks.map krow) from HGp.out.below hb (Nat.le_refl _))
  clear hb hBp p0 p1 p2 p3 p4 p5 p6 HGp 
  obtain ⟨x00, x01, x02⟩ := q02.out
  obtain ⟨x10, x11, x12⟩ := q12.out
  obtain ⟨x20, x21, x22⟩ := q22.out
  obtain ⟨x30, x31, x32⟩ := q32.out
  obtain ⟨x40, x41, x42⟩ := q42.out
  obtain ⟨x50, x51, x52⟩ := q52.out
  obtain ⟨x60, x61, x62⟩ := q62.out
  go_wp2_with fail
  refine calls_gen fun W12 hW12 => ?_
  have p0 : Own W12 w.heap.size [.int .i64 L, .int .i64 sl, .int .i64 rl, .int .i64 rh, .slice A n cap, .int .i64 wg] := by rw [hW12]; exact q02.out
  have p1 : Own W12 (w.heap.size + 1) [.int .i64 a, .int .i64 b, .int .i64 lv] := by rw [hW12]; exact q12.out
  have p2 : Own W12 w2.heap.size [.int .i64 L, .int .i64 sl, .int .i64 rl, .int .i64 rh, .slice A' n cap', .int .i64 wg] := by rw [hW12]; exact q22.out
  have p3 : Own W12 w7.heap.size [.int .i64 lo1, .int .i64 hi1] := by rw [hW12]; exact q32.out
  have p4 : Own W12 w8.heap.size [.int .i64 lo1, .int .i64 hi1] := by rw [hW12]; exact q42.out
  have p5 : Own W12 w9.heap.size [.int .i64 lo2, .int .i64 hi2] := by rw [hW12]; exact q52.out
  have p6 : Own W12 w10.heap.size [.int .i64 lo2, .int .i64 hi2] := by rw [hW12]; exact q62.out
  have hBp : Below w.heap.size w W12 := by rw [hW12]; exact hB2.out
  have HGp := Lib.hid (show Rd 3 W12 A' (ks.map krow) from HG.out.below (show Below w11.heap.size w11 W12 by rw [hW12]; exact Below.refl _ _) (Nat.le_refl _))
  clear hW12 x00 x01 x02 x10 x11 x12 x20 x21 x22 x30 x31 x32 x40 x41 x42 x50 x51 x52 x60 x61 x62 q02 q12 q22 q32 q42 q52 q62 hB2 HG
  refine (rlevel43 L sl rl rh wg A n cap ks lv a b W12 (HA.out.below hBp (Nat.le_refl _)) hn hlen HF).mono ?_
  rintro e w12 ⟨v', er3', rfl, h3', hb⟩
  obtain ⟨z1, z2⟩ := lvR_uniq h3.out h3'.out
  obtain rfl := z1.symm
  obtain rfl := z2.symm
  have q02 := Lib.hid (p0.below hb p0.lt)
  have q12 := Lib.hid (p1.below hb p1.lt)
  have q22 := Lib.hid (p2.below hb p2.lt)
  have q32 := Lib.hid (p3.below hb p3.lt)
  have q42 := Lib.hid (p4.below hb p4.lt)
  have q52 := Lib.hid (p5.below hb p5.lt)
  have q62 := Lib.hid (p6.below hb p6.lt)
  have hB2 := Lib.hid (hBp.trans (hb.mono hBp.size))
  have HG := Lib.hid (show Rd 3 w12 A' (ks.map krow) from HGp.out.below hb (Nat.le_refl _))
  clear hb hBp p0 p1 p2 p3 p4 p5 p6 HGp h3 h3'
  obtain ⟨x00, x01, x02⟩ := q02.out
  obtain ⟨x10, x11, x12⟩ := q12.out
  obtain ⟨x20, x21, x22⟩ := q22.out
  obtain ⟨x30, x31, x32⟩ := q32.out
  obtain ⟨x40, x41, x42⟩ := q42.out
  obtain ⟨x50, x51, x52⟩ := q52.out
  obtain ⟨x60, x61, x62⟩ := q62.out
  go_wp2_with fail
  refine calls_gen fun W13 hW13 => ?_
  have p0 : Own W13 w.heap.size [.int .i64 L, .int .i64 sl, .int .i64 rl, .int .i64 rh, .slice A n cap, .int .i64 wg] := by rw [hW13]; exact q02.out
  have p1 : Own W13 (w.heap.size + 1) [.int .i64 a, .int .i64 b, .int .i64 lv] := by rw [hW13]; exact q12.out
  have p2 : Own W13 w2.heap.size [.int .i64 L, .int .i64 sl, .int .i64 rl, .int .i64 rh, .slice A' n cap', .int .i64 wg] := by rw [hW13]; exact q22.out
  have p3 : Own W13 w7.heap.size [.int .i64 lo1, .int .i64 hi1] := by rw [hW13]; exact q32.out
  have p4 : Own W13 w8.heap.size [.int .i64 lo1, .int .i64 hi1] := by rw [hW13]; exact q42.out
  have p5 : Own W13 w9.heap.size [.int .i64 lo2, .int .i64 hi2] := by rw [hW13]; exact q52.out
  have p6 : Own W13 w10.heap.size [.int .i64 lo2, .int .i64 hi2] := by rw [hW13]; exact q62.out
  have hBp : Below w.heap.size w W13 := by rw [hW13]; exact hB2.out
  have HGp := Lib.hid (show Rd 3 W13 A' (ks.map krow) from HG.out.below (show Below w12.heap.size w12 W13 by rw [hW13]; exact Below.refl _ _) (Nat.le_refl _))
  clear hW13 x00 x01 x02 x10 x11 x12 x20 x21 x22 x30 x31 x32 x40 x41 x42 x50 x51 x52 x60 x61 x62 q02 q12 q22 q32 q42 q52 q62 hB2 HG
  refine (same17 L sl rl rh wg A' n cap' ks L sl rl rh wg A cap W13 (show Rd 3 W13 A' (ks.map krow) from HGp.out) (HA.out.below hBp (Nat.le_refl _)) hn hlen).mono ?_
  rintro e w13 ⟨rfl, hb⟩
  have q02 := Lib.hid (p0.below hb p0.lt)
  have q12 := Lib.hid (p1.below hb p1.lt)
  have q22 := Lib.hid (p2.below hb p2.lt)
  have q32 := Lib.hid (p3.below hb p3.lt)
  have q42 := Lib.hid (p4.below hb p4.lt)
  have q52 := Lib.hid (p5.below hb p5.lt)
  have q62 := Lib.hid (p6.below hb p6.lt)
  have hB2 := Lib.hid (hBp.trans (hb.mono hBp.size))
  have HG := Lib.hid (show Rd 3 w13 A' (ks.map krow) from HGp.out.below hb (Nat.le_refl _))
  clear hb hBp p0 p1 p2 p3 p4 p5 p6 HGp 
  obtain ⟨x00, x01, x02⟩ := q02.out
  obtain ⟨x10, x11, x12⟩ := q12.out
  obtain ⟨x20, x21, x22⟩ := q22.out
  obtain ⟨x30, x31, x32⟩ := q32.out
  obtain ⟨x40, x41, x42⟩ := q42.out
  obtain ⟨x50, x51, x52⟩ := q52.out
  obtain ⟨x60, x61, x62⟩ := q62.out
  go_wp2_with fail
  refine (works13 _).mono ?_
  rintro e w14 ⟨rfl, hb⟩
  have hB7 := Lib.hid (hB2.out.trans (hb.mono hB2.out.size))
  go_wp2
  go_ret
  exact ⟨rfl, hB7.out⟩
end Go.Proofs.Ytphcpphmoeiioaa
