/- Walks: the least number of wrong knots in a front; Fewest. -/
import Derived.Test.YtphcpphmoeiioaaVMa
import Derived.Deep.LoopGhost
import Derived.Test.YtphcpphmoeiioaaWR
namespace Go.Proofs.Ytphcpphmoeiioaa
open Go.RowKit Go.Maps

/-- v is the least second number of the states no longer left, or -1 if there is none (then all are left). -/
def LeastF (F : Int → Int → Option (Int × Int)) (left : Int → Int → Bool) (v : Int) : Prop :=
  (v = -1 ∧ ∀ x u, (Lit.int .i64 x).wf = true → (Lit.int .i64 u).wf = true → (F x u).isSome = true → left x u = true) ∨
  (0 ≤ v ∧ (∃ x, (Lit.int .i64 x).wf = true ∧ (F x v).isSome = true) ∧ ∀ x u, (Lit.int .i64 x).wf = true → (Lit.int .i64 u).wf = true → (F x u).isSome = true → left x u = false → v ≤ u)
theorem LeastF.new {F : Int → Int → Option (Int × Int)} {left : Int → Int → Bool} {v x u : Int} (h : LeastF F left v) (hx : (Lit.int .i64 x).wf = true) (hf : (F x u).isSome = true) (h0 : 0 ≤ u) (hlt : v < 0 ∨ u < v) : LeastF F (fun z y => left z y && (!decide (z = x) || !decide (y = u))) u := by
  refine Or.inr ⟨h0, ⟨x, hx, hf⟩, fun z y hz hy hzy hl => ?_⟩
  by_cases e : z = x ∧ y = u
  · omega
  · have hl' : left z y = false := by have e3 : (!decide (z = x) || !decide (y = u)) = true := (by by_cases e1 : z = x <;> by_cases e2 : y = u <;> simp_all); have hl2 : (left z y && (!decide (z = x) || !decide (y = u))) = false := hl; rw [e3, Bool.and_true] at hl2; exact hl2
    rcases h with ⟨_, h2⟩ | ⟨_, _, h2⟩
    · have := h2 z y hz hy hzy; rw [hl'] at this; cases this
    · have := h2 z y hz hy hzy hl'; omega
theorem LeastF.old {F : Int → Int → Option (Int × Int)} {left : Int → Int → Bool} {v x u : Int} (h : LeastF F left v) (h0 : 0 ≤ v) (hlt : v ≤ u) : LeastF F (fun z y => left z y && (!decide (z = x) || !decide (y = u))) v := by
  rcases h with ⟨h1, _⟩ | ⟨_, h1, h2⟩
  · omega
  · refine Or.inr ⟨h0, h1, fun z y hz hy hzy hl => ?_⟩
    by_cases e : z = x ∧ y = u
    · omega
    · exact h2 z y hz hy hzy (by have e3 : (!decide (z = x) || !decide (y = u)) = true := (by by_cases e1 : z = x <;> by_cases e2 : y = u <;> simp_all); have hl2 : (left z y && (!decide (z = x) || !decide (y = u))) = false := hl; rw [e3, Bool.and_true] at hl2; exact hl2)
theorem LeastF.all {F : Int → Int → Option (Int × Int)} {left : Int → Int → Bool} {v : Int} (h : LeastF F left v) (hl : ∀ x u, (Lit.int .i64 x).wf = true → (Lit.int .i64 u).wf = true → left x u = false) : LeastF F (fun _ _ => false) v := by
  rcases h with ⟨h1, h2⟩ | ⟨h0, h1, h2⟩
  · exact Or.inl ⟨h1, fun x u hx hu hf => by have := h2 x u hx hu hf; rw [hl x u hx hu] at this; cases this⟩
  · exact Or.inr ⟨h0, h1, fun x u hx hu hf _ => h2 x u hx hu hf (hl x u hx hu)⟩
set_option maxRecDepth 100000 in
set_option maxHeartbeats 2000000 in
theorem least65 (b n : Nat) (F : Int → Int → Option (Int × Int)) (w : World) (hm : MapF w b n F) (hpos : Hid (∀ x u, (F x u).isSome = true → 0 ≤ u)) :
    Calls Try.prog 65 #[.map (some b)] w fun e w' => ∃ v, Hid (LeastF F (fun _ _ => false) v) ∧ e = .returned (.tuple #[.int .i64 v, .bool (decide (0 ≤ v))]) ∧ Below w.heap.size w w' := by
  have hbl := hm.lt
  have HM := Lib.hid hm
  clear hm
  go_enter Try.func65, Try.ntmps65
  go_wp2_with (first | (at_range; go_must (refine wp_rangeF _ rfl _ _ rfl Try.underlying92 b n F rfl (HM.out.below (B := w.heap.size) (by (repeat' (first | (with_reducible exact Below.refl _ _) | (with_reducible assumption) | (with_reducible refine Below.drew ?_) | (with_reducible refine below_drewN ?_ _) | (with_reducible refine Below.setCell ?_ ?_ _) | (with_reducible refine Below.alloc ?_ ?_ _) | (refine Below.trans ?_ (Below.mono (by with_reducible assumption) ?_)) | omega | (exact Below.size (by with_reducible assumption)) | (simp; done) | (simp; omega)))) hbl) ?_); intro w1 cnt hr1 hb1 hz1 hcn))
  go_frame
  go_loopg [4] cnt (fun K v wr => ∃ (left : Int → Int → Bool) (m : Int), RngF wr b w.heap.size n F left K ∧ Below w.heap.size w wr ∧ v = .int .i64 m ∧ Hid (LeastF F left m))
  case atStart => exact ⟨_, -1, hr1, hb1, rfl, Or.inl ⟨rfl, fun x u _ _ h => h⟩⟩
  case round =>
    clear hr1 hb1 hz1
    obtain ⟨left, m, hrg, hbw, rfl, hmu⟩ := hrel
    go_wp2_with (at_next; refine wp_nextF _ rfl _ rfl b w.heap.size n F left _ rfl hrg ?_ ?_)
    · intro hc0 hl0
      go_wp2
      go_returns
      exact ⟨m, hmu.out.all hl0, rfl, hbw⟩
    · intro x u lo hi w1 cnt1 hwx hwu hlx hfx hrg1 hlt hg1 hs1 hen
      have hb1 : Below w.heap.size w w1 := hbw.grown hg1 hbw.size (fun k e => by cases e; exact Nat.le_refl _)
      have HF : Hid ((F x u).isSome = true) := by show _ = _; rw [hfx]; rfl
      have HU : 0 ≤ u := hpos.out x u HF.out
      have HX := Lib.hid hwx
      clear hfx hlx hbw hrg hwx hwu
      go_wp2
      all_goals
        go_roundg cnt1
        case measure => omega
        case rel =>
          refine ⟨_, _, hrg1.below (B := w1.heap.size) (by (repeat' (first | (with_reducible exact Below.refl _ _) | (with_reducible assumption) | (with_reducible refine Below.drew ?_) | (with_reducible refine below_drewN ?_ _) | (with_reducible refine Below.setCell ?_ ?_ _) | (with_reducible refine Below.alloc ?_ ?_ _) | (refine Below.trans ?_ (Below.mono (by with_reducible assumption) ?_)) | omega | (exact Below.size (by with_reducible assumption)) | (simp; done) | (simp; omega)))) (by have := hrg1.map.lt; omega) (by have := hrg1.lt; omega), by (repeat' (first | (with_reducible exact Below.refl _ _) | (with_reducible assumption) | (with_reducible refine Below.drew ?_) | (with_reducible refine below_drewN ?_ _) | (with_reducible refine Below.setCell ?_ ?_ _) | (with_reducible refine Below.alloc ?_ ?_ _) | (refine Below.trans ?_ (Below.mono (by with_reducible assumption) ?_)) | omega | (exact Below.size (by with_reducible assumption)) | (simp; done) | (simp; omega))), rfl, ?_⟩
          show LeastF _ _ _
          by_cases hq : m < 0 ∨ u < m
          · first | exact hmu.out.new (x := x) (u := u) HX.out HF.out HU hq | (exfalso; omega)
          · first | exact hmu.out.old (x := x) (u := u) (by omega) (by omega) | (exfalso; omega)
end Go.Proofs.Ytphcpphmoeiioaa
namespace Go.Proofs.Ytphcpphmoeiioaa
open Go.RowKit Go.Maps

def FewR (L sl rl rh wg : Int) (ks : List Kn) (n er : Int) : Prop :=
  (chkV L sl rl rh wg ks = false ∧ n = 0 ∧ er = 70) ∨ (chkV L sl rl rh wg ks = true ∧ er = 0 ∧ FewP (cvOf L sl rl rh wg ks) n)
theorem fewP_of {c : Cv} (hk : c.kn.length ≤ 8) (h1 : c.rlo ≤ c.rhi) (h0 : 0 ≤ c.slope) {F : Int → Int → Option (Int × Int)} (hF : Fro F (St c (fun _ => none) 0 0 c.long)) (hb : Bd (St c (fun _ => none) 0 0 c.long)) {v : Int} (hL : LeastF F (fun _ _ => false) v) : FewP c v := by
  have key : ∀ h, Ok c c.long h → (Lit.int .i64 (h c.long)).wf = true ∧ (Lit.int .i64 (wUp c.kn h c.long : Int)).wf = true ∧ (F (h c.long) (wUp c.kn h c.long)).isSome = true := fun h hh => by
    have hs := (st_iff c hk (fun _ => none) 0 0 c.long _ _ _).2 ⟨h, hh, (fun i hi n hn => nomatch hn), rfl, rfl, rfl⟩
    obtain ⟨lo, hi, e⟩ := hF.some hs
    exact ⟨hb.wf1 hs, hb.wf2 hs, by rw [e]; rfl⟩
  have hc : Ok c c.long (fun _ => c.rlo) := ⟨fun i hi => ⟨Int.le_refl _, h1⟩, fun i hi => by show c.rlo - c.slope ≤ c.rlo ∧ c.rlo ≤ c.rlo + c.slope; omega⟩
  rcases hL with ⟨_, h2⟩ | ⟨h0', ⟨x, _, hx⟩, h2⟩
  · obtain ⟨a1, a2, a3⟩ := key _ hc
    have := h2 _ _ a1 a2 a3
    cases this
  · refine ⟨?_, fun h hh => ?_⟩
    · cases e : F x v with
      | none => rw [e] at hx; cases hx
      | some p =>
        have hsp := hF.at e
        obtain ⟨h, k1, _, _, k3, _⟩ := (st_iff c hk (fun _ => none) 0 0 c.long _ _ _).1 hsp.1
        exact ⟨h, k1, k3⟩
    · obtain ⟨a1, a2, a3⟩ := key h hh
      exact h2 _ _ a1 a2 a3 rfl
set_option maxRecDepth 100000 in
set_option maxHeartbeats 4000000 in
theorem fewest34 (L sl rl rh wg : Int) (A : Option Addr) (n cap : Nat) (ks : List Kn) (w : World) (hA : Rd 3 w A (ks.map krow)) (hn : Hid (n = ks.length)) (hlen : n ≤ 9223372036854775807) :
    Calls Try.prog 34 #[.agg #[.int .i64 L, .int .i64 sl, .int .i64 rl, .int .i64 rh, .slice A n cap, .int .i64 wg]] w fun e w' => ∃ m er : Int, e = .returned (.tuple #[.int .i64 m, .int .i64 er]) ∧ Hid (FewR L sl rl rh wg ks m er) ∧ Below w.heap.size w w' := by
  have HA := Lib.hid hA
  clear hA
  cases hc : chkV L sl rl rh wg ks
  · have hE : Hid (chkE L sl rl rh wg ks = 70) := by show _ = _; simp [chkE, hc]
    have hres : Hid (FewR L sl rl rh wg ks 0 70) := Or.inl ⟨hc, rfl, rfl⟩
    clear hc
    go_enter Try.func34, Try.ntmps34
    go_wp2_with fail
    refine (check37 L sl rl rh wg A n cap ks _ (HA.out.below (B := w.heap.size) (by (repeat' (first | (with_reducible exact Below.refl _ _) | (with_reducible assumption) | (with_reducible refine Below.drew ?_) | (with_reducible refine below_drewN ?_ _) | (with_reducible refine Below.setCell ?_ ?_ _) | (with_reducible refine Below.alloc ?_ ?_ _) | (refine Below.trans ?_ (Below.mono (by with_reducible assumption) ?_)) | omega | (exact Below.size (by with_reducible assumption)) | (simp; done) | (simp; omega)))) (Nat.le_refl _)) hn hlen).mono ?_
    rw [hE.out]
    rintro e w1 ⟨rfl, hb1⟩
    go_wp2
    go_ret2
    exact ⟨0, 70, rfl, hres, by (repeat' (first | (with_reducible exact Below.refl _ _) | (with_reducible assumption) | (with_reducible refine Below.drew ?_) | (with_reducible refine below_drewN ?_ _) | (with_reducible refine Below.setCell ?_ ?_ _) | (with_reducible refine Below.alloc ?_ ?_ _) | (refine Below.trans ?_ (Below.mono (by with_reducible assumption) ?_)) | omega | (exact Below.size (by with_reducible assumption)) | (simp; done) | (simp; omega)))⟩
  · have hE : Hid (chkE L sl rl rh wg ks = 0) := by show _ = _; simp [chkE, hc]
    have hV := Lib.hid (cvV_of hc)
    have HC := Lib.hid hc
    have hl2 := hV.out.l2
    have hl1 := hV.out.l1
    clear hc
    go_enter Try.func34, Try.ntmps34
    go_wp2_with fail
    refine (check37 L sl rl rh wg A n cap ks _ (HA.out.below (B := w.heap.size) (by (repeat' (first | (with_reducible exact Below.refl _ _) | (with_reducible assumption) | (with_reducible refine Below.drew ?_) | (with_reducible refine below_drewN ?_ _) | (with_reducible refine Below.setCell ?_ ?_ _) | (with_reducible refine Below.alloc ?_ ?_ _) | (refine Below.trans ?_ (Below.mono (by with_reducible assumption) ?_)) | omega | (exact Below.size (by with_reducible assumption)) | (simp; done) | (simp; omega)))) (Nat.le_refl _)) hn hlen).mono ?_
    rw [hE.out]
    rintro e w1 ⟨rfl, hb1⟩
    have o1 : Own w1 w.heap.size [.int .i64 L, .int .i64 sl, .int .i64 rl, .int .i64 rh, .slice A n cap, .int .i64 wg] := (Own.new' _ _ rfl rfl).below hb1 (by simp)
    have hB1 : Below w.heap.size w w1 := by (repeat' (first | (with_reducible exact Below.refl _ _) | (with_reducible assumption) | (with_reducible refine Below.drew ?_) | (with_reducible refine below_drewN ?_ _) | (with_reducible refine Below.setCell ?_ ?_ _) | (with_reducible refine Below.alloc ?_ ?_ _) | (refine Below.trans ?_ (Below.mono (by with_reducible assumption) ?_)) | omega | (exact Below.size (by with_reducible assumption)) | (simp; done) | (simp; omega)))
    have hz1 := hB1.size
    clear hb1
    obtain ⟨l1, k1, f1⟩ := o1
    go_wp2_with fail
    refine (walk64 L sl rl rh wg A n cap ks (.map none) (fun _ => none) 0 0 _ (HA.out.below hB1 (Nat.le_refl _)) hn (Or.inl ⟨rfl, rfl⟩) hV).mono ?_
    rintro e w2 ⟨b, F, rfl, hm, hF, hb2⟩
    have hB2 := hB1.trans (hb2.mono hz1)
    have hz2 := hB2.size
    have hBd := st_Bd (cvOf L sl rl rh wg ks) hV.out.r1 hV.out.r2 hV.out.kl (fun _ => none) 0 0 L.toNat (by omega)
    go_wp2_with fail
    refine (least65 b 1809 F _ hm (fun x u h => (hF.out.sup (fun x w s k => ⟨(hBd x w s k).1, (hBd x w s k).2.1⟩) x u h).2.1)).mono ?_
    rintro e w3 ⟨v, hv, rfl, hb3⟩
    have hB3 := hB2.trans (hb3.mono hz2)
    have hres : Hid (FewR L sl rl rh wg ks v 0) := Or.inr ⟨HC.out, rfl, fewP_of (c := cvOf L sl rl rh wg ks) hV.out.kl hV.out.r0 hV.out.s1 hF.out hBd hv.out⟩
    go_wp2
    go_ret2
    exact ⟨v, 0, rfl, hres, hB3⟩
end Go.Proofs.Ytphcpphmoeiioaa
