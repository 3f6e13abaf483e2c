/- Walks: the test of elbows, moves, the sweep and the turns. -/
import Derived.Test.YtgmhelclofnpkaaGreatInA
import Derived.Test.YtgmhelclofnpkaaGreatGen
import Derived.Test.YtgmhelclofnpkaaGreatUm
import Derived.Test.YtgmhelclofnpkaaGreatQl
namespace Go.Proofs.YtgmhelclofnpkaaGreat
open Go.RowKit

/-- A valid track, a walk and elbows of it, and how many there are. -/
structure TkD (T P : List P2) (E : List Int) (c lo hi : Int) (n m : Nat) : Prop where
  nl : n = T.length
  ml : m = P.length
  e : m = E.length
  m8 : 1 ≤ m ∧ m ≤ 8
  t : Tk.OkT T c lo hi
  p : P.all Pl.isP = true
  o : Tk.OkE T c lo hi P E
theorem TkD.n8 {T P : List P2} {E : List Int} {c lo hi : Int} {n m : Nat} (h : TkD T P E c lo hi n m) : 1 ≤ n ∧ n ≤ 8 := by have := h.t.len; have := h.nl; omega
theorem TkD.el {T P : List P2} {E : List Int} {c lo hi : Int} {n m : Nat} (h : TkD T P E c lo hi n m) {k : Nat} (hk : k < m) : ∃ X Y : Nat, E[k]? = some (X : Int) ∧ Tk.en E k = (Y : Int) ∧ X < n ∧ Y < n ∧ (Tk.stp n c X Y).isSome = true := by
  have hl := h.e
  have hn := h.nl
  have h1 := h.o.inn k (by omega)
  have h2 := h.o.inn ((k + 1) % E.length) (Nat.mod_lt _ (by omega))
  have h3 := h.o.stp k (by omega)
  refine ⟨(Tk.ev E k).toNat, (Tk.en E k).toNat, ?_, ?_, by omega, ?_, ?_⟩
  · have hk' : k < E.length := by omega
    have : Tk.ev E k = E[k] := by simp [Tk.ev, List.getD_eq_getElem?_getD, hk']
    rw [List.getElem?_eq_getElem hk', ← this]
    congr 1; omega
  · unfold Tk.en; omega
  · unfold Tk.en; omega
  · rw [hn, show (((Tk.ev E k).toNat : Nat) : Int) = Tk.ev E k by omega, show (((Tk.en E k).toNat : Nat) : Int) = Tk.en E k by unfold Tk.en; omega]
    exact h3
set_option maxRecDepth 100000 in
set_option maxHeartbeats 4000000 in
theorem kareW (A B A1 : Option Addr) (T P : List P2) (E : List Int) (n cap m cb cap1 : Nat) (c lo hi : Int) (w : World) (hA : Rd 2 w A (T.map ptrow)) (hB : Rd 2 w B (P.map ptrow)) (hE : RdI w A1 E) (hD : Hid (TkD T P E c lo hi n m)) :
    Calls Tryz.prog 45 #[mcV A n cap c lo hi B m cb, .slice A1 m cap1] w fun e w' => e = .returned (.bool true) ∧ Below w.heap.size w w' := by
  have HA := Lib.hid hA
  have HB := Lib.hid hB
  have HE := Lib.hid hE
  have hn8 := hD.out.n8
  have hm8 := hD.out.m8
  clear hA hB hE
  have o0 : Own (w.alloc (.cells #[.slice A n cap, .int .i64 c, .int .i64 lo, .int .i64 hi, .slice B m cb] 62)) w.heap.size (mcC A n cap c lo hi B m cb) := Own.new' _ _ rfl rfl
  have oB : Below w.heap.size w (w.alloc (.cells #[.slice A n cap, .int .i64 c, .int .i64 lo, .int .i64 hi, .slice B m cb] 62)) := by (repeat' (first | (with_reducible exact Below.refl _ _) | (with_reducible assumption) | (with_reducible refine Below.drew ?_) | (with_reducible refine below_drewN ?_ _) | (with_reducible refine Below.setCell ?_ ?_ _) | (with_reducible refine Below.alloc ?_ ?_ _) | (refine Below.trans ?_ (Below.mono (by with_reducible assumption) ?_)) | omega | (exact Below.size (by with_reducible assumption)) | (simp; done) | (simp; omega)))
  have O0 := Lib.hid o0
  obtain ⟨l0, c0, f0⟩ := o0
  go_enter Tryz.func45, Tryz.ntmps45
  go_wp2_with fail
  refine (kCfIntW A B A1 E n cap m cb m cap1 c lo hi w.heap.size _ (show RdI _ A1 E from HE.out.below oB (Nat.le_refl _)) (Lib.hid hD.out.e) (by omega) O0.out (by omega) (Lib.hid fun x hx => by
    obtain ⟨i, hi, rfl⟩ := List.getElem_of_mem hx
    have := hD.out.o.inn i hi
    have e : Tk.ev E i = E[i] := by simp [Tk.ev, List.getD_eq_getElem?_getD, hi]
    rw [e] at this
    have := hD.out.nl
    omega)).mono ?_
  rintro e w1 ⟨rfl, hb1⟩
  have o1 := O0.out.below hb1 O0.out.lt
  have hB1 := oB.trans (hb1.mono oB.size)
  clear O0 l0 c0 f0 hb1 oB
  go_wp2
  go_loopw [24] (fun i wr => ∃ k : Nat, k ≤ m ∧ i = .int .i64 k ∧ Own wr w.heap.size (mcC A n cap c lo hi B m cb) ∧ Below w.heap.size w wr) (fun i _ => m - (RowKit.intOf i).toNat)
  case atStart => exact ⟨0, Nat.zero_le _, rfl, o1, hB1⟩
  case round =>
    clear o1 hB1
    obtain ⟨k, hk', rfl, o0, hbw⟩ := hrel
    have O0 := Lib.hid o0
    obtain ⟨l0, c0, f0⟩ := o0
    by_cases hlt : k < m
    · obtain ⟨X, Y, hX, hY, hXn, hYn, hst⟩ := hD.out.el hlt
      have hE1 : RdI wr A1 E := HE.out.below hbw (Nat.le_refl _)
      obtain ⟨b, off, rfl, hb, hc0⟩ := RdI.elem hE1 hX
      have HX := Lib.hid hX
      have HST := Lib.hid hst
      have HY := Lib.hid hY
      clear hX hst hY
      obtain ⟨j, hj⟩ : ∃ j, Hid ((k + 1) % m = j) := ⟨_, rfl⟩
      go_wp2_with fail
      refine (knextW _ E m cap1 k j _ hE1 (Lib.hid hD.out.e) hlt (by omega) hj).mono ?_
      rw [HY.out]
      rintro e w1 ⟨rfl, hb1⟩
      have o1 := O0.out.below hb1 O0.out.lt
      have hB1 := hbw.trans (hb1.mono hbw.size)
      clear O0 l0 c0 f0 hb1 hbw hc0 hb hE1
      have O1 := Lib.hid o1
      obtain ⟨l0, c0, f0⟩ := o1
      go_wp2_with fail
      refine (kstepW A B n cap m cb c lo hi X Y _ (by omega) (by omega) (by omega) HST.out).mono ?_
      rintro e w2 ⟨rfl, hb2⟩
      have o2 := O1.out.below hb2 O1.out.lt
      have hB2 := hB1.trans (hb2.mono hB1.size)
      clear O1 l0 c0 f0 hb2 hB1
      obtain ⟨g, hg⟩ : ∃ g, Hid (T[X]? = some g) := ⟨T[X]'(by have := hD.out.nl; omega), by simp [Hid]⟩
      obtain ⟨p, hp⟩ : ∃ p, Hid (P[k]? = some p) := ⟨P[k]'(by have := hD.out.ml; omega), by simp [Hid]⟩
      obtain ⟨b2, off2, rfl, hb2, hd0, hd1⟩ := rd_p2 (HB.out.below hB2 (Nat.le_refl _)) hp.out
      have hr : Hid (btw (Tk.dst g p) lo hi = true) := by
        have := hD.out.o.rch k (by have := hD.out.e; omega)
        unfold Tk.rch Tk.tp at this
        rwa [ev_of HX.out, Int.toNat_natCast, at_of hg.out, at_of hp.out] at this
      have hx0 := Aft.cell o2
      have hx1 := fun x : Aft w2 => (Aft.old x hb2 _).trans hd0
      have hx2 := fun x : Aft w2 => (Aft.old x hb2 _).trans hd1
      have hg1 := List.all_eq_true.1 hD.out.t.pts g (List.mem_of_getElem? hg.out)
      have hp1 := List.all_eq_true.1 hD.out.p p (List.mem_of_getElem? hp.out)
      have R2 := HA.out.below hB2 (Nat.le_refl _)
      have HR := Lib.hid (fun x : Aft w2 => kreachesW A (some ⟨b2, off2, none⟩) T n cap m cb X c lo hi g p x.w (R2.below x.h (Nat.le_refl _)) (Lib.hid hD.out.nl) (by omega) hg hr hg1 hp1)
      have O2 := Lib.hid o2
      clear o2 hd0 hd1 R2 hg1 hp1
      go_wp2
      refine wp_region_aft (by kernel_rfl) (by kernel_rfl) ?_; (repeat (go_big_quiet_step ((go_at_call 69; with_reducible exact aft_of (HR.out _))))); refine wpQuiet_nil ?_; rintro w3 ⟨⟨_, hb3⟩, rfl⟩
      have o3 := O2.out.below hb3 O2.out.lt
      have hB3 := hB2.trans (hb3.mono hB2.size)
      clear O2 hx0 hx1 hx2 HR hb3 hB2 hb2
      go_wp2
      go_roundw
      case rel => exact ⟨k + 1, by omega, by go_num, o3, hB3⟩
      case measure => simp only [RowKit.intOf]; omega
    · go_wp2
      go_ret
      exact ⟨rfl, hbw⟩
end Go.Proofs.YtgmhelclofnpkaaGreat
namespace Go.Proofs.YtgmhelclofnpkaaGreat
open Go.RowKit

theorem sv_of {n : Nat} {c : Int} {E : List Int} {k X Y : Nat} (hX : E[k]? = some (X : Int)) (hY : Tk.en E k = (Y : Int)) : Tk.onS n c E (k + 1) = Tk.onS n c E k + Tk.sv n c X Y := by
  rw [Tk.onS, ev_of hX, hY]
section
attribute [local go_sem ↓] mn2_run mx2_run
set_option maxRecDepth 100000 in
set_option maxHeartbeats 4000000 in
theorem kmovesW (A B A1 : Option Addr) (T P : List P2) (E : List Int) (n cap m cb cap1 : Nat) (c lo hi : Int) (w : World) (hE : RdI w A1 E) (hD : Hid (TkD T P E c lo hi n m)) :
    Calls Tryz.prog 27 #[mcV A n cap c lo hi B m cb, .slice A1 m cap1] w fun e w' => ∃ q : Int, e = .returned (.tuple #[.int .i64 q, .int .i64 (Tk.onS n c E m)]) ∧ Below w.heap.size w w' := by
  have HE := Lib.hid hE
  have hn8 := hD.out.n8
  have hm8 := hD.out.m8
  clear hE
  have o0 : Own (w.alloc (.cells #[.slice A n cap, .int .i64 c, .int .i64 lo, .int .i64 hi, .slice B m cb] 62)) w.heap.size (mcC A n cap c lo hi B m cb) := Own.new' _ _ rfl rfl
  have oB : Below w.heap.size w (w.alloc (.cells #[.slice A n cap, .int .i64 c, .int .i64 lo, .int .i64 hi, .slice B m cb] 62)) := by (repeat' (first | (with_reducible exact Below.refl _ _) | (with_reducible assumption) | (with_reducible refine Below.drew ?_) | (with_reducible refine below_drewN ?_ _) | (with_reducible refine Below.setCell ?_ ?_ _) | (with_reducible refine Below.alloc ?_ ?_ _) | (refine Below.trans ?_ (Below.mono (by with_reducible assumption) ?_)) | omega | (exact Below.size (by with_reducible assumption)) | (simp; done) | (simp; omega)))
  go_enter Tryz.func27, Tryz.ntmps27
  go_wp2
  go_loopg [4, 5, 14] m (fun K a b y wr => ∃ (k : Nat) (q : Int), K + k = m ∧ y = .int .i64 k ∧ a = .int .i64 q ∧ (0 ≤ q ∧ q ≤ k) ∧ b = .int .i64 (Tk.onS n c E k) ∧ Own wr w.heap.size (mcC A n cap c lo hi B m cb) ∧ Below w.heap.size w wr)
  case atStart => exact ⟨0, 0, rfl, rfl, rfl, by omega, rfl, o0, oB⟩
  case round =>
    clear o0 oB
    obtain ⟨k, q, hk', rfl, rfl, hq, rfl, o0, hbw⟩ := hrel
    have O0 := Lib.hid o0
    have hob := Tk.on_bd n c E k
    obtain ⟨l0, c0, f0⟩ := o0
    by_cases hlt : k < m
    · obtain ⟨X, Y, hX, hY, hXn, hYn, hst⟩ := hD.out.el hlt
      have hE1 : RdI wr A1 E := HE.out.below hbw (Nat.le_refl _)
      obtain ⟨b, off, rfl, hb, hc0⟩ := RdI.elem hE1 hX
      have hnx := Lib.hid (sv_of (n := n) (c := c) hX hY)
      have hsb := Tk.sv_bd n c X Y
      have HST := Lib.hid hst
      have HY := Lib.hid hY
      clear hX hst hY
      obtain ⟨j, hj⟩ : ∃ j, Hid ((k + 1) % m = j) := ⟨_, rfl⟩
      go_wp2_with fail
      refine (knextW _ E m cap1 k j _ hE1 (Lib.hid hD.out.e) hlt (by omega) hj).mono ?_
      rw [HY.out]
      rintro e w1 ⟨rfl, hb1⟩
      have o1 := O0.out.below hb1 O0.out.lt
      have hB1 := hbw.trans (hb1.mono hbw.size)
      clear O0 l0 c0 f0 hb1 hbw hc0 hb hE1
      have O1 := Lib.hid o1
      obtain ⟨l0, c0, f0⟩ := o1
      go_wp2_with fail
      refine (kstepW A B n cap m cb c lo hi X Y _ (by omega) (by omega) (by omega) HST.out).mono ?_
      rintro e w2 ⟨rfl, hb2⟩
      have o2 := O1.out.below hb2 O1.out.lt
      have hB2 := hB1.trans (hb2.mono hB1.size)
      clear O1 l0 c0 f0 hb2 hB1
      generalize Tk.sv n c X Y = sv at *
      have w1 : IntKind.i64.wrap (-sv) = -sv := IntWalk.i64_in _ (by omega)
      go_wp2
      go_roundg (m - (k + 1))
      case measure => omega
      case rel =>
        refine ⟨k + 1, q + max sv (-sv), by omega, by go_num, rfl, by omega, ?_, o2, hB2⟩
        rw [hnx.out]
    · have e : k = m := by omega
      subst e
      go_wp2
      go_ret2
      exact ⟨q, rfl, hbw⟩
end
/-- What a round of the sweep reads. -/
structure SwS (A B : Option Addr) (n cap m cb : Nat) (c lo hi : Int) (Bm : Nat) (b1 f1 b2 f2 X k j Y : Nat) (g p q d : P2) (W : World) : Prop where
  m : Own W Bm (mcC A n cap c lo hi B m cb)
  x0 : W.cell? ⟨b1, f1 + X * 2, none⟩ = some (.int .i64 g.1)
  x1 : W.cell? ⟨b1, f1 + X * 2 + 1, none⟩ = some (.int .i64 g.2)
  y0 : W.cell? ⟨b1, f1 + Y * 2, none⟩ = some (.int .i64 d.1)
  y1 : W.cell? ⟨b1, f1 + Y * 2 + 1, none⟩ = some (.int .i64 d.2)
  k0 : W.cell? ⟨b2, f2 + k * 2, none⟩ = some (.int .i64 p.1)
  k1 : W.cell? ⟨b2, f2 + k * 2 + 1, none⟩ = some (.int .i64 p.2)
  j0 : W.cell? ⟨b2, f2 + j * 2, none⟩ = some (.int .i64 q.1)
  j1 : W.cell? ⟨b2, f2 + j * 2 + 1, none⟩ = some (.int .i64 q.2)
theorem SwS.below {A B : Option Addr} {n cap m cb : Nat} {c lo hi : Int} {Bm b1 f1 b2 f2 X k j Y : Nat} {g p q d : P2} {W W' : World} (h : SwS A B n cap m cb c lo hi Bm b1 f1 b2 f2 X k j Y g p q d W) (hb : Below W.heap.size W W') (l1 : b1 < W.heap.size) (l2 : b2 < W.heap.size) : SwS A B n cap m cb c lo hi Bm b1 f1 b2 f2 X k j Y g p q d W' :=
  ⟨h.m.below hb h.m.lt, (hb.cell (p := ⟨b1, _, none⟩) l1).trans h.x0, (hb.cell (p := ⟨b1, _, none⟩) l1).trans h.x1, (hb.cell (p := ⟨b1, _, none⟩) l1).trans h.y0, (hb.cell (p := ⟨b1, _, none⟩) l1).trans h.y1, (hb.cell (p := ⟨b2, _, none⟩) l2).trans h.k0, (hb.cell (p := ⟨b2, _, none⟩) l2).trans h.k1, (hb.cell (p := ⟨b2, _, none⟩) l2).trans h.j0, (hb.cell (p := ⟨b2, _, none⟩) l2).trans h.j1⟩
set_option maxRecDepth 100000 in
set_option maxHeartbeats 8000000 in
theorem ksweepW (A B A1 : Option Addr) (T P : List P2) (E : List Int) (n cap m cb cap1 : Nat) (c lo hi : Int) (w : World) (hA : Rd 2 w A (T.map ptrow)) (hB : Rd 2 w B (P.map ptrow)) (hE : RdI w A1 E) (hD : Hid (TkD T P E c lo hi n m)) :
    Calls Tryz.prog 28 #[mcV A n cap c lo hi B m cb, .slice A1 m cap1] w fun e w' => e = .returned (.int .i64 (Tk.swp T P E m)) ∧ Below w.heap.size w w' := by
  have HA := Lib.hid hA
  have HB := Lib.hid hB
  have HE := Lib.hid hE
  have hn8 := hD.out.n8
  have hm8 := hD.out.m8
  clear hA hB hE
  have o0 : Own (w.alloc (.cells #[.slice A n cap, .int .i64 c, .int .i64 lo, .int .i64 hi, .slice B m cb] 62)) w.heap.size (mcC A n cap c lo hi B m cb) := Own.new' _ _ rfl rfl
  have oB : Below w.heap.size w (w.alloc (.cells #[.slice A n cap, .int .i64 c, .int .i64 lo, .int .i64 hi, .slice B m cb] 62)) := by (repeat' (first | (with_reducible exact Below.refl _ _) | (with_reducible assumption) | (with_reducible refine Below.drew ?_) | (with_reducible refine below_drewN ?_ _) | (with_reducible refine Below.setCell ?_ ?_ _) | (with_reducible refine Below.alloc ?_ ?_ _) | (refine Below.trans ?_ (Below.mono (by with_reducible assumption) ?_)) | omega | (exact Below.size (by with_reducible assumption)) | (simp; done) | (simp; omega)))
  go_enter Tryz.func28, Tryz.ntmps28
  go_wp2
  go_loopg [5, 12] m (fun K a y wr => ∃ k : Nat, K + k = m ∧ y = .int .i64 k ∧ a = .int .i64 (Tk.swp T P E k) ∧ Own wr w.heap.size (mcC A n cap c lo hi B m cb) ∧ Below w.heap.size w wr)
  case atStart => exact ⟨0, rfl, rfl, rfl, o0, oB⟩
  case round =>
    clear o0 oB
    obtain ⟨k, hk', rfl, rfl, o0, hbw⟩ := hrel
    have O0 := Lib.hid o0
    obtain ⟨l0, c0, f0⟩ := o0
    by_cases hlt : k < m
    · obtain ⟨X, Y, hX, hY, hXn, hYn, hst⟩ := hD.out.el hlt
      have hE1 : RdI wr A1 E := HE.out.below hbw (Nat.le_refl _)
      obtain ⟨b, off, rfl, hb, hc0⟩ := RdI.elem hE1 hX
      have HY := Lib.hid hY
      obtain ⟨j, hj⟩ : ∃ j, Hid ((k + 1) % m = j) := ⟨_, rfl⟩
      have hjm : j < m := by rw [← hj.out]; exact Nat.mod_lt _ (by omega)
      obtain ⟨g, hg⟩ : ∃ g, Hid (T[X]? = some g) := ⟨T[X]'(by have := hD.out.nl; omega), by simp [Hid]⟩
      obtain ⟨d, hd⟩ : ∃ d, Hid (T[Y]? = some d) := ⟨T[Y]'(by have := hD.out.nl; omega), by simp [Hid]⟩
      obtain ⟨p, hp⟩ : ∃ p, Hid (P[k]? = some p) := ⟨P[k]'(by have := hD.out.ml; omega), by simp [Hid]⟩
      obtain ⟨q, hq⟩ : ∃ q, Hid (P[j]? = some q) := ⟨P[j]'(by have := hD.out.ml; omega), by simp [Hid]⟩
      have hqd : Tk.quad T P E k = [g, p, q, d] := by
        unfold Tk.quad Tk.tp
        rw [ev_of hX, HY.out, ← hD.out.e, hj.out, Int.toNat_natCast, Int.toNat_natCast, at_of hg.out, at_of hp.out, at_of hq.out, at_of hd.out]
      have hqp := Tk.quad_isP hD.out.o hD.out.t.pts hD.out.p (k := k) (by have := hD.out.e; omega)
      have hbd := Tk.swp_bd hD.out.o hD.out.t.pts hD.out.p (k + 1) (by have := hD.out.e; omega)
      have hbd0 := Tk.swp_bd hD.out.o hD.out.t.pts hD.out.p k (by have := hD.out.e; omega)
      rw [Tk.swp] at hbd
      have hsw : Tk.swp T P E (k + 1) = Tk.swp T P E k + Pl.area [g, p, q, d] := by rw [Tk.swp, hqd]
      rw [hqd] at hqp hbd
      have HQP := Lib.hid hqp
      have hww : IntKind.i64.wrap (Tk.swp T P E k + Pl.area [g, p, q, d]) = Tk.swp T P E k + Pl.area [g, p, q, d] := IntWalk.i64_in _ (by omega)
      have HSW := Lib.hid hsw
      clear hX hst hY hqd hqp hbd hbd0 hsw
      go_wp2_with fail
      refine (knextW _ E m cap1 k j _ hE1 (Lib.hid hD.out.e) hlt (by omega) hj).mono ?_
      rw [HY.out]
      rintro e w1 ⟨rfl, hb1⟩
      have o1 := O0.out.below hb1 O0.out.lt
      have hB1 := hbw.trans (hb1.mono hbw.size)
      clear O0 l0 c0 f0 hb1 hbw hc0 hb hE1
      obtain ⟨b1, f1, rfl, hl1, hx0, hx1⟩ := rd_p2 (HA.out.below hB1 (Nat.le_refl _)) hg.out
      obtain ⟨hy0, hy1⟩ := rd_p2c (HA.out.below hB1 (Nat.le_refl _)) hd.out
      obtain ⟨b2, f2, rfl, hl2, hk0, hk1⟩ := rd_p2 (HB.out.below hB1 (Nat.le_refl _)) hp.out
      obtain ⟨hj0, hj1⟩ := rd_p2c (HB.out.below hB1 (Nat.le_refl _)) hq.out
      have s0 : SwS (some ⟨b1, f1, none⟩) (some ⟨b2, f2, none⟩) n cap m cb c lo hi w.heap.size b1 f1 b2 f2 X k j Y g p q d w1.drew := ⟨o1.drew, hx0, hx1, hy0, hy1, hk0, hk1, hj0, hj1⟩
      have hB2 := hB1.drew
      have hl1' : b1 < w1.drew.heap.size := hl1
      have hl2' : b2 < w1.drew.heap.size := hl2
      clear o1 hx0 hx1 hy0 hy1 hk0 hk1 hj0 hj1 hB1 hl1 hl2
      go_wp2
      refine rg_start (fun W => SwS (some ⟨b1, f1, none⟩) (some ⟨b2, f2, none⟩) n cap m cb c lo hi w.heap.size b1 f1 b2 f2 X k j Y g p q d W) 27 (by kernel_rfl) rfl ?_
      generalize World.drew _ = R0 at s0 hB2 hl1' hl2' ⊢
      refine rg_take (fuel := 4) [0, 1, 2, 3, 4, 5, 6, 7, 8, 9, 10, 11, 12, 13, 14, 15, 16, 17, 18, 19, 20, 21, 22] (by kernel_rfl) (by intro _ _ d _ _ h; first | (cases d <;> exact h) | (simp [Exit.then, Exit.inBlock, ownPostG] at h)) rfl (by kernel_rfl) (by kernel_rfl) s0 ?_; simp only [pickL, pick1, List.cons_append, List.nil_append]
      iterate 23 (refine wpTake_cons (v := ?_) (Or.inl ⟨by rfl, ?_⟩) ?_; rotate_left; (intro w' hSw; have ym := hSw.m.c; have y0 := hSw.x0; have y1 := hSw.x1; have y2 := hSw.y0; have y3 := hSw.y1; have y4 := hSw.k0; have y5 := hSw.k1; have y6 := hSw.j0; have y7 := hSw.j1; clear hSw; go_simp; (try with_reducible rfl)); (try simp only [Act.put, List.setIfInBounds_toArray, List.set_cons_zero, List.set_cons_succ]))
      refine wpTake_nil ?_
      refine rg_one (fuel := 3) 23 rfl (by kernel_rfl) (by kernel_rfl) ?_; simp only [pick1, wpHead]
      intro K' hK; rw [if_pos (by rfl)]; go_simp
      have bR : Below R0.heap.size R0 (R0.alloc (.cells #[.int .i64 g.1, .int .i64 g.2, .int .i64 p.1, .int .i64 p.2, .int .i64 q.1, .int .i64 q.2, .int .i64 d.1, .int .i64 d.2] 52)) := (Below.refl _ _).alloc (Nat.le_refl _) _
      have s5 := s0.below bR hl1' hl2'
      have k5 : Own (R0.alloc (.cells #[.int .i64 g.1, .int .i64 g.2, .int .i64 p.1, .int .i64 p.2, .int .i64 q.1, .int .i64 q.2, .int .i64 d.1, .int .i64 d.2] 52)) R0.heap.size [.int .i64 g.1, .int .i64 g.2, .int .i64 p.1, .int .i64 p.2, .int .i64 q.1, .int .i64 q.2, .int .i64 d.1, .int .i64 d.2] := Own.new' _ _ rfl rfl
      have hB5 := hB2.trans (bR.mono hB2.size)
      have hl5 := Nat.lt_of_lt_of_le hl1' bR.size
      have hl6 := Nat.lt_of_lt_of_le hl2' bR.size
      refine hK.out _ _ s5 ?_
      clear hK K'; (try simp only [Act.put, List.setIfInBounds_toArray, List.set_cons_zero, List.set_cons_succ])
      clear s0 hB2 bR hl1' hl2'
      generalize R0.alloc (.cells #[.int .i64 g.1, .int .i64 g.2, .int .i64 p.1, .int .i64 p.2, .int .i64 q.1, .int .i64 q.2, .int .i64 d.1, .int .i64 d.2] 52) = R1 at s5 hB5 k5 hl5 hl6 ⊢
      have hRd := Lib.hid (show Rd 2 R1 (some ⟨R0.heap.size, 0, none⟩) ([g, p, q, d].map ptrow) from Own.rd' k5 rfl (by simp [ptrow]))
      clear k5
      refine rg_one (fuel := 2) 24 rfl (by kernel_rfl) (by kernel_rfl) ?_; simp only [pick1, wpHead]
      intro K' hK; rw [if_pos (by rfl)]; go_simp
      refine (karoundW _ [g, p, q, d] 4 4 _ hRd.out rfl (by omega) HQP).mono ?_
      rintro e w2 ⟨rfl, hb2⟩
      have s6 := s5.below hb2 hl5 hl6
      have hB6 := hB5.trans (hb2.mono hB5.size)
      clear s5 hB5 hb2 hRd hl5 hl6
      refine hK.out _ _ s6 ?_
      clear hK K'; (try simp only [Act.put, List.setIfInBounds_toArray, List.set_cons_zero, List.set_cons_succ])
      refine rg_take (fuel := 0) [25, 26] (by kernel_rfl) (by intro _ _ d _ _ h; first | (cases d <;> exact h) | (simp [Exit.then, Exit.inBlock, ownPostG] at h)) rfl (by kernel_rfl) (by kernel_rfl) s6 ?_; simp only [pickL, pick1, List.cons_append, List.nil_append]
      iterate 2 (refine wpTake_cons (v := ?_) (Or.inl ⟨by rfl, ?_⟩) ?_; rotate_left; (intro w' hSw; go_simp; (try with_reducible rfl)); (try simp only [Act.put, List.setIfInBounds_toArray, List.set_cons_zero, List.set_cons_succ]))
      refine wpTake_nil ?_
      refine rg_done (by kernel_rfl) ?_
      go_wp2
      go_roundg (m - (k + 1))
      case measure => omega
      case rel =>
        refine ⟨k + 1, by omega, by go_num, ?_, s6.m, hB6⟩
        rw [HSW.out]
    · have e : k = m := by omega
      subst e
      go_wp2
      go_ret
      exact ⟨rfl, hbw⟩
end Go.Proofs.YtgmhelclofnpkaaGreat
namespace Go.Proofs.YtgmhelclofnpkaaGreat
open Go.RowKit

abbrev zeroMc : List Value := [.slice none 0 0, .int .i64 0, .int .i64 0, .int .i64 0, .slice none 0 0]
abbrev set5 (W : World) (Z : Nat) (A : Option Addr) (n cap : Nat) (c lo hi : Int) (B : Option Addr) (m cb : Nat) : World := ((((W.setCell ⟨Z, 0, none⟩ (.slice A n cap)).setCell ⟨Z, 1, none⟩ (.int .i64 c)).setCell ⟨Z, 2, none⟩ (.int .i64 lo)).setCell ⟨Z, 3, none⟩ (.int .i64 hi)).setCell ⟨Z, 4, none⟩ (.slice B m cb)
theorem own_set5 {W : World} {Z : Nat} (o : Own W Z zeroMc) (A : Option Addr) (n cap : Nat) (c lo hi : Int) (B : Option Addr) (m cb : Nat) : Own (set5 W Z A n cap c lo hi B m cb) Z (mcC A n cap c lo hi B m cb) := ((((o.set 0 (by simp) _).set 1 (by simp) _).set 2 (by simp) _).set 3 (by simp) _).set 4 (by simp) _
theorem below_set5 {w W : World} {k Z : Nat} (h : Below k w W) (hZ : k ≤ Z) (A : Option Addr) (n cap : Nat) (c lo hi : Int) (B : Option Addr) (m cb : Nat) : Below k w (set5 W Z A n cap c lo hi B m cb) := ((((h.setCell (by exact hZ) _).setCell (by exact hZ) _).setCell (by exact hZ) _).setCell (by exact hZ) _).setCell (by exact hZ) _
set_option maxHeartbeats 4000000 in
theorem ktoldW (A B A1 : Option Addr) (T P : List P2) (E : List Int) (n cap m cb cap1 : Nat) (c lo hi : Int) (w : World) (hA : Rd 2 w A (T.map ptrow)) (hB : Rd 2 w B (P.map ptrow)) (hE : RdI w A1 E) (hD : Hid (TkD T P E c lo hi n m)) :
    Calls Tryz.prog 26 #[tkV A n cap c lo hi, .slice B m cb, .slice A1 m cap1] w fun e w' => e = .returned (.tuple #[mcV A n cap c lo hi B m cb, .int .i64 0]) ∧ Below w.heap.size w w' := by
  have HA := Lib.hid hA
  have HB := Lib.hid hB
  have HE := Lib.hid hE
  have hm8 := hD.out.m8
  clear hA hB hE
  go_enter Tryz.func26, Tryz.ntmps26
  go_wp2_with fail
  refine (kCheckW A B T P n cap m cb c lo hi _ (HA.out.below (by (repeat' (first | (with_reducible exact Below.refl _ _) | (with_reducible assumption) | (with_reducible refine Below.drew ?_) | (with_reducible refine below_drewN ?_ _) | (with_reducible refine Below.setCell ?_ ?_ _) | (with_reducible refine Below.alloc ?_ ?_ _) | (refine Below.trans ?_ (Below.mono (by with_reducible assumption) ?_)) | omega | (exact Below.size (by with_reducible assumption)) | (simp; done) | (simp; omega)))) (Nat.le_refl _)) (HB.out.below (by (repeat' (first | (with_reducible exact Below.refl _ _) | (with_reducible assumption) | (with_reducible refine Below.drew ?_) | (with_reducible refine below_drewN ?_ _) | (with_reducible refine Below.setCell ?_ ?_ _) | (with_reducible refine Below.alloc ?_ ?_ _) | (refine Below.trans ?_ (Below.mono (by with_reducible assumption) ?_)) | omega | (exact Below.size (by with_reducible assumption)) | (simp; done) | (simp; omega)))) (Nat.le_refl _)) (Lib.hid hD.out.nl) (Lib.hid hD.out.ml) (Lib.hid hD.out.t) hm8 (Lib.hid hD.out.p)).mono ?_
  rintro e w1 ⟨rfl, hb1⟩
  have hB1 : Below w.heap.size w w1 := by (repeat' (first | (with_reducible exact Below.refl _ _) | (with_reducible assumption) | (with_reducible refine Below.drew ?_) | (with_reducible refine below_drewN ?_ _) | (with_reducible refine Below.setCell ?_ ?_ _) | (with_reducible refine Below.alloc ?_ ?_ _) | (refine Below.trans ?_ (Below.mono (by with_reducible assumption) ?_)) | omega | (exact Below.size (by with_reducible assumption)) | (simp; done) | (simp; omega)))
  have p1 : Own w1 (w.heap.size + 1) zeroMc := Own.below ((Own.new' (w := w.alloc _) #[.slice none 0 0, .int .i64 0, .int .i64 0, .int .i64 0, .slice none 0 0] _ (by simp) rfl).alloc _) hb1 (by simp)
  have p2 : Own w1 (w.heap.size + 1 + 1) (mcC A n cap c lo hi B m cb) := Own.below (Own.new' (w := (w.alloc _).alloc _) #[.slice A n cap, .int .i64 c, .int .i64 lo, .int .i64 hi, .slice B m cb] _ (by simp) rfl) hb1 (by simp)
  clear hb1
  have P1 := Lib.hid p1
  have P2 := Lib.hid p2
  obtain ⟨l2, c2, f2⟩ := p2
  clear p1
  go_wp2_with fail
  refine (kareW A B A1 T P E n cap m cb cap1 c lo hi _ (HA.out.below hB1 (Nat.le_refl _)) (HB.out.below hB1 (Nat.le_refl _)) (show RdI _ A1 E from HE.out.below hB1 (Nat.le_refl _)) hD).mono ?_
  rintro e w2 ⟨rfl, hb2⟩
  have p1 := P1.out.below hb2 P1.out.lt
  have p2 := P2.out.below hb2 P2.out.lt
  have hB2 := hB1.trans (hb2.mono hB1.size)
  have P1' := Lib.hid p1
  clear P1 P2 hB1 hb2 l2 c2 f2
  obtain ⟨l2, c2, f2⟩ := p2
  obtain ⟨l1, c1, f1⟩ := p1
  go_wp2
  refine bodyPost_ret (results_cell_t (B := w.heap.size + 1) (vs := mcC A n cap c lo hi B m cb) rfl rfl (own_set5 P1'.out A n cap c lo hi B m cb) (by kernel_rfl) (by kernel_rfl)) rfl ?_
  exact ⟨rfl, below_set5 hB2 (by omega) A n cap c lo hi B m cb⟩
set_option maxHeartbeats 2000000 in
theorem kSweepW (A B A1 : Option Addr) (T P : List P2) (E : List Int) (n cap m cb cap1 : Nat) (c lo hi : Int) (w : World) (hA : Rd 2 w A (T.map ptrow)) (hB : Rd 2 w B (P.map ptrow)) (hE : RdI w A1 E) (hD : Hid (TkD T P E c lo hi n m)) :
    Calls Tryz.prog 10 #[tkV A n cap c lo hi, .slice B m cb, .slice A1 m cap1] w fun e w' => e = .returned (.tuple #[.int .i64 (Tk.swp T P E m), .int .i64 0]) ∧ Below w.heap.size w w' := by
  have HA := Lib.hid hA
  have HB := Lib.hid hB
  have HE := Lib.hid hE
  clear hA hB hE
  go_enter Tryz.func10, Tryz.ntmps10
  go_wp2_with fail
  refine (ktoldW A B A1 T P E n cap m cb cap1 c lo hi _ (HA.out.below (by (repeat' (first | (with_reducible exact Below.refl _ _) | (with_reducible assumption) | (with_reducible refine Below.drew ?_) | (with_reducible refine below_drewN ?_ _) | (with_reducible refine Below.setCell ?_ ?_ _) | (with_reducible refine Below.alloc ?_ ?_ _) | (refine Below.trans ?_ (Below.mono (by with_reducible assumption) ?_)) | omega | (exact Below.size (by with_reducible assumption)) | (simp; done) | (simp; omega)))) (Nat.le_refl _)) (HB.out.below (by (repeat' (first | (with_reducible exact Below.refl _ _) | (with_reducible assumption) | (with_reducible refine Below.drew ?_) | (with_reducible refine below_drewN ?_ _) | (with_reducible refine Below.setCell ?_ ?_ _) | (with_reducible refine Below.alloc ?_ ?_ _) | (refine Below.trans ?_ (Below.mono (by with_reducible assumption) ?_)) | omega | (exact Below.size (by with_reducible assumption)) | (simp; done) | (simp; omega)))) (Nat.le_refl _)) (show RdI _ A1 E from HE.out.below (by (repeat' (first | (with_reducible exact Below.refl _ _) | (with_reducible assumption) | (with_reducible refine Below.drew ?_) | (with_reducible refine below_drewN ?_ _) | (with_reducible refine Below.setCell ?_ ?_ _) | (with_reducible refine Below.alloc ?_ ?_ _) | (refine Below.trans ?_ (Below.mono (by with_reducible assumption) ?_)) | omega | (exact Below.size (by with_reducible assumption)) | (simp; done) | (simp; omega)))) (Nat.le_refl _)) hD).mono ?_
  rintro e w1 ⟨rfl, hb1⟩
  have hB1 : Below w.heap.size w w1 := by (repeat' (first | (with_reducible exact Below.refl _ _) | (with_reducible assumption) | (with_reducible refine Below.drew ?_) | (with_reducible refine below_drewN ?_ _) | (with_reducible refine Below.setCell ?_ ?_ _) | (with_reducible refine Below.alloc ?_ ?_ _) | (refine Below.trans ?_ (Below.mono (by with_reducible assumption) ?_)) | omega | (exact Below.size (by with_reducible assumption)) | (simp; done) | (simp; omega)))
  have hB2 := hB1.alloc hB1.size (.cells #[.slice A n cap, .int .i64 c, .int .i64 lo, .int .i64 hi, .slice B m cb] 62)
  clear hb1
  go_wp2_with fail
  refine (ksweepW A B A1 T P E n cap m cb cap1 c lo hi _ (HA.out.below hB2 (Nat.le_refl _)) (HB.out.below hB2 (Nat.le_refl _)) (show RdI _ A1 E from HE.out.below hB2 (Nat.le_refl _)) hD).mono ?_
  rintro e w2 ⟨rfl, hb2⟩
  have hB3 := hB2.trans (hb2.mono hB2.size)
  clear hb2 hB2
  go_wp2
  go_ret2
  exact ⟨rfl, hB3⟩
/-- The turns. -/
def trn (n : Nat) (c : Int) (E : List Int) (m : Nat) : Int := if c = 0 then 0 else (Tk.onS n c E m).tdiv n
set_option maxHeartbeats 4000000 in
theorem kTurnsW (A B A1 : Option Addr) (T P : List P2) (E : List Int) (n cap m cb cap1 : Nat) (c lo hi : Int) (w : World) (hA : Rd 2 w A (T.map ptrow)) (hB : Rd 2 w B (P.map ptrow)) (hE : RdI w A1 E) (hD : Hid (TkD T P E c lo hi n m)) :
    Calls Tryz.prog 9 #[tkV A n cap c lo hi, .slice B m cb, .slice A1 m cap1] w fun e w' => e = .returned (.tuple #[.int .i64 (trn n c E m), .int .i64 0]) ∧ Below w.heap.size w w' := by
  have HA := Lib.hid hA
  have HB := Lib.hid hB
  have HE := Lib.hid hE
  clear hA hB hE
  have hn8 := hD.out.n8
  have hm8 := hD.out.m8
  have o0 : Own (w.alloc (.cells #[.slice A n cap, .int .i64 c, .int .i64 lo, .int .i64 hi] 26)) w.heap.size (tkC A n cap c lo hi) := Own.new' _ _ rfl rfl
  have oB : Below w.heap.size w (w.alloc (.cells #[.slice A n cap, .int .i64 c, .int .i64 lo, .int .i64 hi] 26)) := by (repeat' (first | (with_reducible exact Below.refl _ _) | (with_reducible assumption) | (with_reducible refine Below.drew ?_) | (with_reducible refine below_drewN ?_ _) | (with_reducible refine Below.setCell ?_ ?_ _) | (with_reducible refine Below.alloc ?_ ?_ _) | (refine Below.trans ?_ (Below.mono (by with_reducible assumption) ?_)) | omega | (exact Below.size (by with_reducible assumption)) | (simp; done) | (simp; omega)))
  by_cases hc : c = 0
  · subst hc
    have ht : trn n 0 E m = 0 := rfl
    rw [ht]
    go_enter Tryz.func9, Tryz.ntmps9
    go_wp2_with fail
    refine (ktoldW A B A1 T P E n cap m cb cap1 0 lo hi _ (HA.out.below oB (Nat.le_refl _)) (HB.out.below oB (Nat.le_refl _)) (show RdI _ A1 E from HE.out.below oB (Nat.le_refl _)) hD).mono ?_
    rintro e w1 ⟨rfl, hb1⟩
    obtain ⟨l1, c1, f1⟩ := o0.below hb1 o0.lt
    have hB1 := oB.trans (hb1.mono oB.size)
    have hB2 := hB1.alloc hB1.size (.cells #[.slice A n cap, .int .i64 0, .int .i64 lo, .int .i64 hi, .slice B m cb] 62)
    clear hb1 o0 oB
    go_wp2
    go_ret2
    exact ⟨rfl, hB2⟩
  · have ht : trn n c E m = (Tk.onS n c E m).tdiv n := by unfold trn; rw [if_neg hc]
    rw [ht]
    have hcb : (c == 0) = false := by simpa using hc
    have hob := Tk.on_bd n c E m
    have hdv : -8 ≤ (Tk.onS n c E m).tdiv n ∧ (Tk.onS n c E m).tdiv n ≤ 8 := by
      have h1 := Int.natAbs_tdiv (Tk.onS n c E m) (n : Int)
      have h2 : (Tk.onS n c E m).natAbs.div ((n : Int).natAbs) ≤ (Tk.onS n c E m).natAbs := Nat.div_le_self _ _
      omega
    have hwd : IntKind.i64.wrap ((Tk.onS n c E m).tdiv n) = (Tk.onS n c E m).tdiv n := IntWalk.i64_in _ (by omega)
    have hn0 : ¬ (n : Int) = 0 := by omega
    clear hc
    go_enter Tryz.func9, Tryz.ntmps9
    go_wp2_with fail
    refine (ktoldW A B A1 T P E n cap m cb cap1 c lo hi _ (HA.out.below oB (Nat.le_refl _)) (HB.out.below oB (Nat.le_refl _)) (show RdI _ A1 E from HE.out.below oB (Nat.le_refl _)) hD).mono ?_
    rintro e w1 ⟨rfl, hb1⟩
    have o1 := o0.below hb1 o0.lt
    have hB1 := oB.trans (hb1.mono oB.size)
    have hB2 := hB1.alloc hB1.size (.cells #[.slice A n cap, .int .i64 c, .int .i64 lo, .int .i64 hi, .slice B m cb] 62)
    have o2 := o1.alloc (.cells #[.slice A n cap, .int .i64 c, .int .i64 lo, .int .i64 hi, .slice B m cb] 62)
    have O2 := Lib.hid o2
    obtain ⟨l1, c1, f1⟩ := o1
    clear hb1 o0 oB o2
    go_wp2_with fail
    refine (kmovesW A B A1 T P E n cap m cb cap1 c lo hi _ (show RdI _ A1 E from HE.out.below hB2 (Nat.le_refl _)) hD).mono ?_
    rintro e w2 ⟨q, rfl, hb2⟩
    have o3 := O2.out.below hb2 O2.out.lt
    have hB3 := hB2.trans (hb2.mono hB2.size)
    clear hb2 hB2 l1 c1 f1 O2 hB1
    obtain ⟨l1, c1, f1⟩ := o3
    go_wp2
    go_ret2
    exact ⟨rfl, hB3⟩
end Go.Proofs.YtgmhelclofnpkaaGreat
