/- CurvesHigher: walk, as far as the loop that writes the higher knots. -/
import Derived.Test.YtphcpphmoeiioaaHiP
import Derived.Test.YtphcpphmoeiioaaCpA
import Derived.Test.YtphcpphmoeiioaaLean
import Derived.Test.YtphcpphmoeiioaaWW
namespace Go.Proofs.Ytphcpphmoeiioaa
open Go.RowKit Go.Maps

theorem gro_old {w : World} {base e sz b : Nat} {v : Value} {rows : List (List Value)} (h : Gro w base e sz v rows) (hb : w.heap.size ≤ b) : v.ownBlock ≠ some b := by
  rcases h.2.2 with ⟨rfl, _⟩ | ⟨g1, cap1, cur1, rfl, _, h1, _⟩
  · simp [Value.ownBlock]
  · simp only [Value.ownBlock]
    intro e
    cases e
    have := (Array.getElem?_eq_some_iff.1 h1).1
    omega
theorem gro_lt {w : World} {base e sz n cap : Nat} {A : Option Addr} {rows : List (List Value)} (h : Gro w base e sz (.slice A n cap) rows) : ∀ b off, A = some ⟨b, off, none⟩ → b < w.heap.size := by
  intro b off e
  subst e
  rcases h.2.2 with ⟨h1, _⟩ | ⟨g1, cap1, cur1, h0, _, h1, _⟩
  · cases h1
  · cases h0
    exact (Array.getElem?_eq_some_iff.1 h1).1
def hiRows (m : Int) (ks : List Kn) (k : Nat) : List (List Value) := ((ks.take k).map (upk m) ++ ks.drop k).map krow
theorem hiRows_zero (m : Int) (ks : List Kn) : hiRows m ks 0 = ks.map krow := by simp [hiRows]
theorem hiRows_all (m : Int) (ks : List Kn) : hiRows m ks ks.length = (ks.map (upk m)).map krow := by simp [hiRows]
theorem hiRows_len (m : Int) (ks : List Kn) (k : Nat) : (hiRows m ks k).length = ks.length := by simp [hiRows]; omega
theorem hiRows_at {m : Int} {ks : List Kn} {k : Nat} {q : Kn} (h : ks[k]? = some q) : (hiRows m ks k)[k]? = some (krow q) := by
  obtain ⟨hlt, _⟩ := List.getElem?_eq_some_iff.1 h
  have : (List.map (upk m) (ks.take k) ++ ks.drop k)[k]? = some q := by
    rw [List.getElem?_append_right (by simp; omega)]
    simp [h, Nat.min_eq_left (Nat.le_of_lt hlt)]
  unfold hiRows
  rw [List.getElem?_map, this]; rfl
theorem hiRows_set {m : Int} {ks : List Kn} {k : Nat} {q : Kn} (h : ks[k]? = some q) : (hiRows m ks k).set k (krow (upk m q)) = hiRows m ks (k + 1) := by
  obtain ⟨hlt, e⟩ := List.getElem?_eq_some_iff.1 h
  unfold hiRows
  rw [take_snoc h, List.drop_eq_getElem_cons hlt, e, List.map_append, List.set_append_right _ _ (by simp; omega)]
  have : k - ((ks.take k).map (upk m) |>.map krow).length = 0 := by simp; omega
  rw [this]
  simp
theorem gro_hi {W : World} {base g n cap k : Nat} {m : Int} {ks : List Kn} {q : Kn} (h : Gro W base 51 3 (.slice (some ⟨g, 0, none⟩) n cap) (hiRows m ks k)) (hq : ks[k]? = some q) :
    Gro ((W.setCell ⟨g, k * 3 + 1, none⟩ (.int .i64 (q.lo + m))).setCell ⟨g, k * 3 + 1 + 1, none⟩ (.int .i64 (q.hi + m))) base 51 3 (.slice (some ⟨g, 0, none⟩) n cap) (hiRows m ks (k + 1)) := by
  have hlt := (List.getElem?_eq_some_iff.1 hq).1
  have h1 := Gro.set h (hiRows_at hq) (c := 1) (by omega) (.int .i64 (q.lo + m))
  have h2 := Gro.set h1 (i := k) (c := 2) (r := (krow q).set 1 (.int .i64 (q.lo + m))) (by rw [List.getElem?_set_self (by rw [hiRows_len]; exact hlt)]) (by omega) (.int .i64 (q.hi + m))
  rw [List.set_set] at h2
  have e : hiRows m ks (k + 1) = (hiRows m ks k).set k (((krow q).set 1 (.int .i64 (q.lo + m))).set 2 (.int .i64 (q.hi + m))) := (hiRows_set hq).symm
  rw [e]
  exact h2
theorem mul_bd {m d : Int} (h : -200 ≤ m ∧ m ≤ 200) (k : 0 ≤ d ∧ d ≤ 12) : -4800 ≤ 2 * m * d ∧ 2 * m * d ≤ 4800 := by
  have : d = 0 ∨ d = 1 ∨ d = 2 ∨ d = 3 ∨ d = 4 ∨ d = 5 ∨ d = 6 ∨ d = 7 ∨ d = 8 ∨ d = 9 ∨ d = 10 ∨ d = 11 ∨ d = 12 := by omega
  rcases this with e | e | e | e | e | e | e | e | e | e | e | e | e <;> rw [e] <;> omega
theorem wp_normal {P : Program} {c : Code} {Q : Exit → Act → World → Prop} {a : Act} {w : World} (h : c.wp P (fun e a w => e = .normal ∧ Q e a w) a w) : c.wp P Q a w := Code.wp_mono (fun _ _ _ k => k.2) h
set_option maxRecDepth 100000 in
set_option maxHeartbeats 8000000 in
theorem higher9 (L sl rl rh wg : Int) (A : Option Addr) (n cap : Nat) (ks : List Kn) (m a b lv : Int) (w : World) (hA : Rd 3 w A (ks.map krow)) (hn : Hid (n = ks.length)) (hlen : n ≤ 9223372036854775807) :
    Calls Try.prog 9 #[.agg #[.int .i64 L, .int .i64 sl, .int .i64 rl, .int .i64 rh, .slice A n cap, .int .i64 wg], .int .i64 m, .agg #[.int .i64 a, .int .i64 b, .int .i64 lv]] w fun e w' => e = .returned (.bool true) ∧ Below w.heap.size w w' := by
  have HA := Lib.hid hA
  clear hA
  cases hr : readyB L sl rl rh wg ks
  · have HR := Lib.hid hr
    clear hr
    go_enter Try.func9, Try.ntmps9
    go_wp2_with fail
    refine calls_gen fun W1 hW => ?_
    have hB : Below w.heap.size w W1 := by rw [hW]; (repeat' (first | (with_reducible exact Below.refl _ _) | (with_reducible assumption) | (with_reducible refine Below.drew ?_) | (with_reducible refine below_drewN ?_ _) | (with_reducible refine Below.setCell ?_ ?_ _) | (with_reducible refine Below.alloc ?_ ?_ _) | (refine Below.trans ?_ (Below.mono (by with_reducible assumption) ?_)) | omega | (exact Below.size (by with_reducible assumption)) | (simp; done) | (simp; omega)))
    have pc : Own W1 (w.heap.size) [.int .i64 L, .int .i64 sl, .int .i64 rl, .int .i64 rh, .slice A n cap, .int .i64 wg] := by rw [hW]; exact (Own.new' _ _ rfl rfl).alloc _
    have px : Own W1 (w.heap.size + 1) [.int .i64 a, .int .i64 b, .int .i64 lv] := by rw [hW]; exact Own.new' _ _ (by simp) rfl
    clear hW 
    refine (ready18v false L sl rl rh wg A n cap ks _ HR (HA.out.below hB (Nat.le_refl _)) hn hlen).mono ?_
    rintro e V1 ⟨rfl, hb⟩
    have hB' := hB.trans (hb.mono hB.size)
    have qc := Lib.hid (pc.below hb pc.lt)
    have qx := Lib.hid (px.below hb px.lt)
    clear hb hB pc px
    have hB := hB'
    clear hB'
    obtain ⟨lc, kc, fc⟩ := qc.out
    obtain ⟨lx, kx, fx⟩ := qx.out
    go_wp2_with fail
    refine calls_gen fun W2 hW => ?_
    have hB : Below w.heap.size w W2 := by rw [hW]; (repeat' (first | (with_reducible exact Below.refl _ _) | (with_reducible assumption) | (with_reducible refine Below.drew ?_) | (with_reducible refine below_drewN ?_ _) | (with_reducible refine Below.setCell ?_ ?_ _) | (with_reducible refine Below.alloc ?_ ?_ _) | (refine Below.trans ?_ (Below.mono (by with_reducible assumption) ?_)) | omega | (exact Below.size (by with_reducible assumption)) | (simp; done) | (simp; omega)))
    have hBV : Below V1.heap.size V1 W2 := by rw [hW]; (repeat' (first | (with_reducible exact Below.refl _ _) | (with_reducible assumption) | (with_reducible refine Below.drew ?_) | (with_reducible refine below_drewN ?_ _) | (with_reducible refine Below.setCell ?_ ?_ _) | (with_reducible refine Below.alloc ?_ ?_ _) | (refine Below.trans ?_ (Below.mono (by with_reducible assumption) ?_)) | omega | (exact Below.size (by with_reducible assumption)) | (simp; done) | (simp; omega)))
    have pc : Own W2 (w.heap.size) [.int .i64 L, .int .i64 sl, .int .i64 rl, .int .i64 rh, .slice A n cap, .int .i64 wg] := by rw [hW]; exact qc.out
    have px : Own W2 (w.heap.size + 1) [.int .i64 a, .int .i64 b, .int .i64 lv] := by rw [hW]; exact qx.out
    clear hW lc kc fc qc lx kx fx qx
    refine (works13 _).mono ?_
    rintro e V2 ⟨rfl, hb⟩
    have hB' := hB.trans (hb.mono hB.size)
    have qc := Lib.hid (pc.below hb pc.lt)
    have qx := Lib.hid (px.below hb px.lt)
    clear hb hB hBV pc px
    have hB := hB'
    clear hB'
    obtain ⟨lc, kc, fc⟩ := qc.out
    obtain ⟨lx, kx, fx⟩ := qx.out
    go_wp2
    go_ret
    exact ⟨rfl, hB⟩
  have HR := Lib.hid hr
  cases hk : askB L a b lv
  · have HK := Lib.hid hk
    clear hr hk
    go_enter Try.func9, Try.ntmps9
    go_wp2_with fail
    refine calls_gen fun W1 hW => ?_
    have hB : Below w.heap.size w W1 := by rw [hW]; (repeat' (first | (with_reducible exact Below.refl _ _) | (with_reducible assumption) | (with_reducible refine Below.drew ?_) | (with_reducible refine below_drewN ?_ _) | (with_reducible refine Below.setCell ?_ ?_ _) | (with_reducible refine Below.alloc ?_ ?_ _) | (refine Below.trans ?_ (Below.mono (by with_reducible assumption) ?_)) | omega | (exact Below.size (by with_reducible assumption)) | (simp; done) | (simp; omega)))
    have pc : Own W1 (w.heap.size) [.int .i64 L, .int .i64 sl, .int .i64 rl, .int .i64 rh, .slice A n cap, .int .i64 wg] := by rw [hW]; exact (Own.new' _ _ rfl rfl).alloc _
    have px : Own W1 (w.heap.size + 1) [.int .i64 a, .int .i64 b, .int .i64 lv] := by rw [hW]; exact Own.new' _ _ (by simp) rfl
    clear hW 
    refine (ready18v true L sl rl rh wg A n cap ks _ HR (HA.out.below hB (Nat.le_refl _)) hn hlen).mono ?_
    rintro e V1 ⟨rfl, hb⟩
    have hB' := hB.trans (hb.mono hB.size)
    have qc := Lib.hid (pc.below hb pc.lt)
    have qx := Lib.hid (px.below hb px.lt)
    clear hb hB pc px
    have hB := hB'
    clear hB'
    obtain ⟨lc, kc, fc⟩ := qc.out
    obtain ⟨lx, kx, fx⟩ := qx.out
    go_wp2_with fail
    refine calls_gen fun W2 hW => ?_
    have hB : Below w.heap.size w W2 := by rw [hW]; (repeat' (first | (with_reducible exact Below.refl _ _) | (with_reducible assumption) | (with_reducible refine Below.drew ?_) | (with_reducible refine below_drewN ?_ _) | (with_reducible refine Below.setCell ?_ ?_ _) | (with_reducible refine Below.alloc ?_ ?_ _) | (refine Below.trans ?_ (Below.mono (by with_reducible assumption) ?_)) | omega | (exact Below.size (by with_reducible assumption)) | (simp; done) | (simp; omega)))
    have hBV : Below V1.heap.size V1 W2 := by rw [hW]; (repeat' (first | (with_reducible exact Below.refl _ _) | (with_reducible assumption) | (with_reducible refine Below.drew ?_) | (with_reducible refine below_drewN ?_ _) | (with_reducible refine Below.setCell ?_ ?_ _) | (with_reducible refine Below.alloc ?_ ?_ _) | (refine Below.trans ?_ (Below.mono (by with_reducible assumption) ?_)) | omega | (exact Below.size (by with_reducible assumption)) | (simp; done) | (simp; omega)))
    have pc : Own W2 (w.heap.size) [.int .i64 L, .int .i64 sl, .int .i64 rl, .int .i64 rh, .slice A n cap, .int .i64 wg] := by rw [hW]; exact qc.out
    have px : Own W2 (w.heap.size + 1) [.int .i64 a, .int .i64 b, .int .i64 lv] := by rw [hW]; exact qx.out
    clear hW lc kc fc qc lx kx fx qx
    refine (isAsk19v false L sl rl rh wg _ a b lv _ HK).mono ?_
    rintro e V2 ⟨rfl, hb⟩
    have hB' := hB.trans (hb.mono hB.size)
    have qc := Lib.hid (pc.below hb pc.lt)
    have qx := Lib.hid (px.below hb px.lt)
    clear hb hB hBV pc px
    have hB := hB'
    clear hB'
    obtain ⟨lc, kc, fc⟩ := qc.out
    obtain ⟨lx, kx, fx⟩ := qx.out
    go_wp2_with fail
    refine calls_gen fun W3 hW => ?_
    have hB : Below w.heap.size w W3 := by rw [hW]; (repeat' (first | (with_reducible exact Below.refl _ _) | (with_reducible assumption) | (with_reducible refine Below.drew ?_) | (with_reducible refine below_drewN ?_ _) | (with_reducible refine Below.setCell ?_ ?_ _) | (with_reducible refine Below.alloc ?_ ?_ _) | (refine Below.trans ?_ (Below.mono (by with_reducible assumption) ?_)) | omega | (exact Below.size (by with_reducible assumption)) | (simp; done) | (simp; omega)))
    have hBV : Below V2.heap.size V2 W3 := by rw [hW]; (repeat' (first | (with_reducible exact Below.refl _ _) | (with_reducible assumption) | (with_reducible refine Below.drew ?_) | (with_reducible refine below_drewN ?_ _) | (with_reducible refine Below.setCell ?_ ?_ _) | (with_reducible refine Below.alloc ?_ ?_ _) | (refine Below.trans ?_ (Below.mono (by with_reducible assumption) ?_)) | omega | (exact Below.size (by with_reducible assumption)) | (simp; done) | (simp; omega)))
    have pc : Own W3 (w.heap.size) [.int .i64 L, .int .i64 sl, .int .i64 rl, .int .i64 rh, .slice A n cap, .int .i64 wg] := by rw [hW]; exact qc.out
    have px : Own W3 (w.heap.size + 1) [.int .i64 a, .int .i64 b, .int .i64 lv] := by rw [hW]; exact qx.out
    clear hW lc kc fc qc lx kx fx qx
    refine (works13 _).mono ?_
    rintro e V3 ⟨rfl, hb⟩
    have hB' := hB.trans (hb.mono hB.size)
    have qc := Lib.hid (pc.below hb pc.lt)
    have qx := Lib.hid (px.below hb px.lt)
    clear hb hB hBV pc px
    have hB := hB'
    clear hB'
    obtain ⟨lc, kc, fc⟩ := qc.out
    obtain ⟨lx, kx, fx⟩ := qx.out
    go_wp2
    go_ret
    exact ⟨rfl, hB⟩
  have HK := Lib.hid hk
  by_cases hm1 : m < -200
  · clear hr hk
    go_enter Try.func9, Try.ntmps9
    go_wp2_with fail
    refine calls_gen fun W1 hW => ?_
    have hB : Below w.heap.size w W1 := by rw [hW]; (repeat' (first | (with_reducible exact Below.refl _ _) | (with_reducible assumption) | (with_reducible refine Below.drew ?_) | (with_reducible refine below_drewN ?_ _) | (with_reducible refine Below.setCell ?_ ?_ _) | (with_reducible refine Below.alloc ?_ ?_ _) | (refine Below.trans ?_ (Below.mono (by with_reducible assumption) ?_)) | omega | (exact Below.size (by with_reducible assumption)) | (simp; done) | (simp; omega)))
    have pc : Own W1 (w.heap.size) [.int .i64 L, .int .i64 sl, .int .i64 rl, .int .i64 rh, .slice A n cap, .int .i64 wg] := by rw [hW]; exact (Own.new' _ _ rfl rfl).alloc _
    have px : Own W1 (w.heap.size + 1) [.int .i64 a, .int .i64 b, .int .i64 lv] := by rw [hW]; exact Own.new' _ _ (by simp) rfl
    clear hW 
    refine (ready18v true L sl rl rh wg A n cap ks _ HR (HA.out.below hB (Nat.le_refl _)) hn hlen).mono ?_
    rintro e V1 ⟨rfl, hb⟩
    have hB' := hB.trans (hb.mono hB.size)
    have qc := Lib.hid (pc.below hb pc.lt)
    have qx := Lib.hid (px.below hb px.lt)
    clear hb hB pc px
    have hB := hB'
    clear hB'
    obtain ⟨lc, kc, fc⟩ := qc.out
    obtain ⟨lx, kx, fx⟩ := qx.out
    go_wp2_with fail
    refine calls_gen fun W2 hW => ?_
    have hB : Below w.heap.size w W2 := by rw [hW]; (repeat' (first | (with_reducible exact Below.refl _ _) | (with_reducible assumption) | (with_reducible refine Below.drew ?_) | (with_reducible refine below_drewN ?_ _) | (with_reducible refine Below.setCell ?_ ?_ _) | (with_reducible refine Below.alloc ?_ ?_ _) | (refine Below.trans ?_ (Below.mono (by with_reducible assumption) ?_)) | omega | (exact Below.size (by with_reducible assumption)) | (simp; done) | (simp; omega)))
    have hBV : Below V1.heap.size V1 W2 := by rw [hW]; (repeat' (first | (with_reducible exact Below.refl _ _) | (with_reducible assumption) | (with_reducible refine Below.drew ?_) | (with_reducible refine below_drewN ?_ _) | (with_reducible refine Below.setCell ?_ ?_ _) | (with_reducible refine Below.alloc ?_ ?_ _) | (refine Below.trans ?_ (Below.mono (by with_reducible assumption) ?_)) | omega | (exact Below.size (by with_reducible assumption)) | (simp; done) | (simp; omega)))
    have pc : Own W2 (w.heap.size) [.int .i64 L, .int .i64 sl, .int .i64 rl, .int .i64 rh, .slice A n cap, .int .i64 wg] := by rw [hW]; exact qc.out
    have px : Own W2 (w.heap.size + 1) [.int .i64 a, .int .i64 b, .int .i64 lv] := by rw [hW]; exact qx.out
    clear hW lc kc fc qc lx kx fx qx
    refine (isAsk19v true L sl rl rh wg _ a b lv _ HK).mono ?_
    rintro e V2 ⟨rfl, hb⟩
    have hB' := hB.trans (hb.mono hB.size)
    have qc := Lib.hid (pc.below hb pc.lt)
    have qx := Lib.hid (px.below hb px.lt)
    clear hb hB hBV pc px
    have hB := hB'
    clear hB'
    obtain ⟨lc, kc, fc⟩ := qc.out
    obtain ⟨lx, kx, fx⟩ := qx.out
    go_wp2_with fail
    refine calls_gen fun W3 hW => ?_
    have hB : Below w.heap.size w W3 := by rw [hW]; (repeat' (first | (with_reducible exact Below.refl _ _) | (with_reducible assumption) | (with_reducible refine Below.drew ?_) | (with_reducible refine below_drewN ?_ _) | (with_reducible refine Below.setCell ?_ ?_ _) | (with_reducible refine Below.alloc ?_ ?_ _) | (refine Below.trans ?_ (Below.mono (by with_reducible assumption) ?_)) | omega | (exact Below.size (by with_reducible assumption)) | (simp; done) | (simp; omega)))
    have hBV : Below V2.heap.size V2 W3 := by rw [hW]; (repeat' (first | (with_reducible exact Below.refl _ _) | (with_reducible assumption) | (with_reducible refine Below.drew ?_) | (with_reducible refine below_drewN ?_ _) | (with_reducible refine Below.setCell ?_ ?_ _) | (with_reducible refine Below.alloc ?_ ?_ _) | (refine Below.trans ?_ (Below.mono (by with_reducible assumption) ?_)) | omega | (exact Below.size (by with_reducible assumption)) | (simp; done) | (simp; omega)))
    have pc : Own W3 (w.heap.size) [.int .i64 L, .int .i64 sl, .int .i64 rl, .int .i64 rh, .slice A n cap, .int .i64 wg] := by rw [hW]; exact qc.out
    have px : Own W3 (w.heap.size + 1) [.int .i64 a, .int .i64 b, .int .i64 lv] := by rw [hW]; exact qx.out
    clear hW lc kc fc qc lx kx fx qx
    refine (works13 _).mono ?_
    rintro e V3 ⟨rfl, hb⟩
    have hB' := hB.trans (hb.mono hB.size)
    have qc := Lib.hid (pc.below hb pc.lt)
    have qx := Lib.hid (px.below hb px.lt)
    clear hb hB hBV pc px
    have hB := hB'
    clear hB'
    obtain ⟨lc, kc, fc⟩ := qc.out
    obtain ⟨lx, kx, fx⟩ := qx.out
    go_wp2
    go_ret
    exact ⟨rfl, hB⟩
  by_cases hm2 : 200 < m
  · clear hr hk
    go_enter Try.func9, Try.ntmps9
    go_wp2_with fail
    refine calls_gen fun W1 hW => ?_
    have hB : Below w.heap.size w W1 := by rw [hW]; (repeat' (first | (with_reducible exact Below.refl _ _) | (with_reducible assumption) | (with_reducible refine Below.drew ?_) | (with_reducible refine below_drewN ?_ _) | (with_reducible refine Below.setCell ?_ ?_ _) | (with_reducible refine Below.alloc ?_ ?_ _) | (refine Below.trans ?_ (Below.mono (by with_reducible assumption) ?_)) | omega | (exact Below.size (by with_reducible assumption)) | (simp; done) | (simp; omega)))
    have pc : Own W1 (w.heap.size) [.int .i64 L, .int .i64 sl, .int .i64 rl, .int .i64 rh, .slice A n cap, .int .i64 wg] := by rw [hW]; exact (Own.new' _ _ rfl rfl).alloc _
    have px : Own W1 (w.heap.size + 1) [.int .i64 a, .int .i64 b, .int .i64 lv] := by rw [hW]; exact Own.new' _ _ (by simp) rfl
    clear hW 
    refine (ready18v true L sl rl rh wg A n cap ks _ HR (HA.out.below hB (Nat.le_refl _)) hn hlen).mono ?_
    rintro e V1 ⟨rfl, hb⟩
    have hB' := hB.trans (hb.mono hB.size)
    have qc := Lib.hid (pc.below hb pc.lt)
    have qx := Lib.hid (px.below hb px.lt)
    clear hb hB pc px
    have hB := hB'
    clear hB'
    obtain ⟨lc, kc, fc⟩ := qc.out
    obtain ⟨lx, kx, fx⟩ := qx.out
    go_wp2_with fail
    refine calls_gen fun W2 hW => ?_
    have hB : Below w.heap.size w W2 := by rw [hW]; (repeat' (first | (with_reducible exact Below.refl _ _) | (with_reducible assumption) | (with_reducible refine Below.drew ?_) | (with_reducible refine below_drewN ?_ _) | (with_reducible refine Below.setCell ?_ ?_ _) | (with_reducible refine Below.alloc ?_ ?_ _) | (refine Below.trans ?_ (Below.mono (by with_reducible assumption) ?_)) | omega | (exact Below.size (by with_reducible assumption)) | (simp; done) | (simp; omega)))
    have hBV : Below V1.heap.size V1 W2 := by rw [hW]; (repeat' (first | (with_reducible exact Below.refl _ _) | (with_reducible assumption) | (with_reducible refine Below.drew ?_) | (with_reducible refine below_drewN ?_ _) | (with_reducible refine Below.setCell ?_ ?_ _) | (with_reducible refine Below.alloc ?_ ?_ _) | (refine Below.trans ?_ (Below.mono (by with_reducible assumption) ?_)) | omega | (exact Below.size (by with_reducible assumption)) | (simp; done) | (simp; omega)))
    have pc : Own W2 (w.heap.size) [.int .i64 L, .int .i64 sl, .int .i64 rl, .int .i64 rh, .slice A n cap, .int .i64 wg] := by rw [hW]; exact qc.out
    have px : Own W2 (w.heap.size + 1) [.int .i64 a, .int .i64 b, .int .i64 lv] := by rw [hW]; exact qx.out
    clear hW lc kc fc qc lx kx fx qx
    refine (isAsk19v true L sl rl rh wg _ a b lv _ HK).mono ?_
    rintro e V2 ⟨rfl, hb⟩
    have hB' := hB.trans (hb.mono hB.size)
    have qc := Lib.hid (pc.below hb pc.lt)
    have qx := Lib.hid (px.below hb px.lt)
    clear hb hB hBV pc px
    have hB := hB'
    clear hB'
    obtain ⟨lc, kc, fc⟩ := qc.out
    obtain ⟨lx, kx, fx⟩ := qx.out
    go_wp2_with fail
    refine calls_gen fun W3 hW => ?_
    have hB : Below w.heap.size w W3 := by rw [hW]; (repeat' (first | (with_reducible exact Below.refl _ _) | (with_reducible assumption) | (with_reducible refine Below.drew ?_) | (with_reducible refine below_drewN ?_ _) | (with_reducible refine Below.setCell ?_ ?_ _) | (with_reducible refine Below.alloc ?_ ?_ _) | (refine Below.trans ?_ (Below.mono (by with_reducible assumption) ?_)) | omega | (exact Below.size (by with_reducible assumption)) | (simp; done) | (simp; omega)))
    have hBV : Below V2.heap.size V2 W3 := by rw [hW]; (repeat' (first | (with_reducible exact Below.refl _ _) | (with_reducible assumption) | (with_reducible refine Below.drew ?_) | (with_reducible refine below_drewN ?_ _) | (with_reducible refine Below.setCell ?_ ?_ _) | (with_reducible refine Below.alloc ?_ ?_ _) | (refine Below.trans ?_ (Below.mono (by with_reducible assumption) ?_)) | omega | (exact Below.size (by with_reducible assumption)) | (simp; done) | (simp; omega)))
    have pc : Own W3 (w.heap.size) [.int .i64 L, .int .i64 sl, .int .i64 rl, .int .i64 rh, .slice A n cap, .int .i64 wg] := by rw [hW]; exact qc.out
    have px : Own W3 (w.heap.size + 1) [.int .i64 a, .int .i64 b, .int .i64 lv] := by rw [hW]; exact qx.out
    clear hW lc kc fc qc lx kx fx qx
    refine (works13 _).mono ?_
    rintro e V3 ⟨rfl, hb⟩
    have hB' := hB.trans (hb.mono hB.size)
    have qc := Lib.hid (pc.below hb pc.lt)
    have qx := Lib.hid (px.below hb px.lt)
    clear hb hB hBV pc px
    have hB := hB'
    clear hB'
    obtain ⟨lc, kc, fc⟩ := qc.out
    obtain ⟨lx, kx, fx⟩ := qx.out
    go_wp2
    go_ret
    exact ⟨rfl, hB⟩
  have hc := (ready_iff.1 hr).2
  obtain ⟨ha0, hab, hbL, _, _⟩ := askB_iff.1 hk
  have HC := Lib.hid hc
  have hV := Lib.hid (cvV_of hc)
  have hl2 := hV.out.l2
  have hl1 := hV.out.l1
  have hq1 := hV.out.r1
  have hq0 := hV.out.r0
  have hq2 := hV.out.r2
  have hnk : n ≤ 8 := by have := hV.out.kl; have := hn.out; omega
  clear hr hk hc
  go_enter Try.func9, Try.ntmps9
  go_wp2_with fail
  refine calls_gen fun W1 hW => ?_
  have hB : Below w.heap.size w W1 := by rw [hW]; (repeat' (first | (with_reducible exact Below.refl _ _) | (with_reducible assumption) | (with_reducible refine Below.drew ?_) | (with_reducible refine below_drewN ?_ _) | (with_reducible refine Below.setCell ?_ ?_ _) | (with_reducible refine Below.alloc ?_ ?_ _) | (refine Below.trans ?_ (Below.mono (by with_reducible assumption) ?_)) | omega | (exact Below.size (by with_reducible assumption)) | (simp; done) | (simp; omega)))
  have pc : Own W1 (w.heap.size) [.int .i64 L, .int .i64 sl, .int .i64 rl, .int .i64 rh, .slice A n cap, .int .i64 wg] := by rw [hW]; exact (Own.new' _ _ rfl rfl).alloc _
  have px : Own W1 (w.heap.size + 1) [.int .i64 a, .int .i64 b, .int .i64 lv] := by rw [hW]; exact Own.new' _ _ (by simp) rfl
  clear hW 
  refine (ready18v true L sl rl rh wg A n cap ks _ HR (HA.out.below hB (Nat.le_refl _)) hn hlen).mono ?_
  rintro e V1 ⟨rfl, hb⟩
  have hB' := hB.trans (hb.mono hB.size)
  have qc := Lib.hid (pc.below hb pc.lt)
  have qx := Lib.hid (px.below hb px.lt)
  clear hb hB pc px
  have hB := hB'
  clear hB'
  obtain ⟨lc, kc, fc⟩ := qc.out
  obtain ⟨lx, kx, fx⟩ := qx.out
  go_wp2_with fail
  refine calls_gen fun W2 hW => ?_
  have hB : Below w.heap.size w W2 := by rw [hW]; (repeat' (first | (with_reducible exact Below.refl _ _) | (with_reducible assumption) | (with_reducible refine Below.drew ?_) | (with_reducible refine below_drewN ?_ _) | (with_reducible refine Below.setCell ?_ ?_ _) | (with_reducible refine Below.alloc ?_ ?_ _) | (refine Below.trans ?_ (Below.mono (by with_reducible assumption) ?_)) | omega | (exact Below.size (by with_reducible assumption)) | (simp; done) | (simp; omega)))
  have hBV : Below V1.heap.size V1 W2 := by rw [hW]; (repeat' (first | (with_reducible exact Below.refl _ _) | (with_reducible assumption) | (with_reducible refine Below.drew ?_) | (with_reducible refine below_drewN ?_ _) | (with_reducible refine Below.setCell ?_ ?_ _) | (with_reducible refine Below.alloc ?_ ?_ _) | (refine Below.trans ?_ (Below.mono (by with_reducible assumption) ?_)) | omega | (exact Below.size (by with_reducible assumption)) | (simp; done) | (simp; omega)))
  have pc : Own W2 (w.heap.size) [.int .i64 L, .int .i64 sl, .int .i64 rl, .int .i64 rh, .slice A n cap, .int .i64 wg] := by rw [hW]; exact qc.out
  have px : Own W2 (w.heap.size + 1) [.int .i64 a, .int .i64 b, .int .i64 lv] := by rw [hW]; exact qx.out
  clear hW lc kc fc qc lx kx fx qx
  refine (isAsk19v true L sl rl rh wg _ a b lv _ HK).mono ?_
  rintro e V2 ⟨rfl, hb⟩
  have hB' := hB.trans (hb.mono hB.size)
  have qc := Lib.hid (pc.below hb pc.lt)
  have qx := Lib.hid (px.below hb px.lt)
  clear hb hB hBV pc px
  have hB := hB'
  clear hB'
  obtain ⟨lc, kc, fc⟩ := qc.out
  obtain ⟨lx, kx, fx⟩ := qx.out
  go_wp2_with fail
  refine calls_gen fun W3 hW => ?_
  have hB : Below w.heap.size w W3 := by rw [hW]; (repeat' (first | (with_reducible exact Below.refl _ _) | (with_reducible assumption) | (with_reducible refine Below.drew ?_) | (with_reducible refine below_drewN ?_ _) | (with_reducible refine Below.setCell ?_ ?_ _) | (with_reducible refine Below.alloc ?_ ?_ _) | (refine Below.trans ?_ (Below.mono (by with_reducible assumption) ?_)) | omega | (exact Below.size (by with_reducible assumption)) | (simp; done) | (simp; omega)))
  have hBV : Below V2.heap.size V2 W3 := by rw [hW]; (repeat' (first | (with_reducible exact Below.refl _ _) | (with_reducible assumption) | (with_reducible refine Below.drew ?_) | (with_reducible refine below_drewN ?_ _) | (with_reducible refine Below.setCell ?_ ?_ _) | (with_reducible refine Below.alloc ?_ ?_ _) | (refine Below.trans ?_ (Below.mono (by with_reducible assumption) ?_)) | omega | (exact Below.size (by with_reducible assumption)) | (simp; done) | (simp; omega)))
  have pc : Own W3 (w.heap.size) [.int .i64 L, .int .i64 sl, .int .i64 rl, .int .i64 rh, .slice A n cap, .int .i64 wg] := by rw [hW]; exact qc.out
  have px : Own W3 (w.heap.size + 1) [.int .i64 a, .int .i64 b, .int .i64 lv] := by rw [hW]; exact qx.out
  clear hW lc kc fc qc lx kx fx qx
  refine (copy14 L sl rl rh wg A n cap ks _ (HA.out.below hB (Nat.le_refl _)) hn (by omega)).mono ?_
  rintro e V3 ⟨A', cap', rfl, hG, hb⟩
  have hOB1 := px.lt
  have hOB2 := hb.size
  have hgo := Lib.hid (gro_old hG (Nat.le_refl _))
  have hAl := Lib.hid (gro_lt hG)
  replace hG := Lib.hid hG
  have hB' := hB.trans (hb.mono hB.size)
  have qc := Lib.hid (pc.below hb pc.lt)
  have qx := Lib.hid (px.below hb px.lt)
  clear hb hB hBV pc px
  have hB := hB'
  clear hB'
  obtain ⟨lc, kc, fc⟩ := qc.out
  obtain ⟨lx, kx, fx⟩ := qx.out
  go_wp2_with fail
  refine calls_gen fun W4 hW => ?_
  have hB : Below w.heap.size w W4 := by rw [hW]; (repeat' (first | (with_reducible exact Below.refl _ _) | (with_reducible assumption) | (with_reducible refine Below.drew ?_) | (with_reducible refine below_drewN ?_ _) | (with_reducible refine Below.setCell ?_ ?_ _) | (with_reducible refine Below.alloc ?_ ?_ _) | (refine Below.trans ?_ (Below.mono (by with_reducible assumption) ?_)) | omega | (exact Below.size (by with_reducible assumption)) | (simp; done) | (simp; omega)))
  have hBV : Below V3.heap.size V3 W4 := by rw [hW]; (repeat' (first | (with_reducible exact Below.refl _ _) | (with_reducible assumption) | (with_reducible refine Below.drew ?_) | (with_reducible refine below_drewN ?_ _) | (with_reducible refine Below.setCell ?_ ?_ _) | (with_reducible refine Below.alloc ?_ ?_ _) | (refine Below.trans ?_ (Below.mono (by with_reducible assumption) ?_)) | omega | (exact Below.size (by with_reducible assumption)) | (simp; done) | (simp; omega)))
  have pc : Own W4 (w.heap.size) [.int .i64 L, .int .i64 sl, .int .i64 rl, .int .i64 rh, .slice A n cap, .int .i64 wg] := by rw [hW]; exact (qc.out.alloc _)
  have px : Own W4 (w.heap.size + 1) [.int .i64 a, .int .i64 b, .int .i64 lv] := by rw [hW]; exact (qx.out.alloc _)
  have po : Own W4 (V3.heap.size) [.int .i64 L, .int .i64 sl, .int .i64 rl, .int .i64 rh, .slice A' n cap', .int .i64 wg] := by rw [hW]; exact Own.new' _ _ rfl rfl
  clear hW lc kc fc qc lx kx fx qx
  refine (plus36 rl rh m _ (by omega) (by omega) (by omega)).mono ?_
  rintro e V4 ⟨rfl, hb⟩
  have hB' := hB.trans (hb.mono hB.size)
  replace hG := Lib.hid ((hG.out.below hBV (Nat.le_refl _)).below hb (Nat.le_refl _))
  have qc := Lib.hid (pc.below hb pc.lt)
  have qx := Lib.hid (px.below hb px.lt)
  have qo := Lib.hid (po.below hb po.lt)
  clear hb hB hBV pc px po
  have hB := hB'
  clear hB'
  obtain ⟨lc, kc, fc⟩ := qc.out
  obtain ⟨lx, kx, fx⟩ := qx.out
  obtain ⟨lo, ko, fo⟩ := qo.out
  clear HR HK
  go_wp2
  go_loopg [8] ks.length (fun K z w5 => ∃ k : Nat, K + k = ks.length ∧ z = .int .i64 k ∧ Own w5 w.heap.size [.int .i64 L, .int .i64 sl, .int .i64 rl, .int .i64 rh, .slice A n cap, .int .i64 wg] ∧ Own w5 (w.heap.size + 1) [.int .i64 a, .int .i64 b, .int .i64 lv] ∧ Own w5 V3.heap.size [.int .i64 L, .int .i64 sl, .int .i64 (rl + m), .int .i64 (rh + m), .slice A' n cap', .int .i64 wg] ∧ Hid (Gro w5 W3.heap.size 51 3 (.slice A' n cap') (hiRows m ks k)) ∧ Below w.heap.size w w5)
  case atStart => exact ⟨0, rfl, rfl, (qc.out.setOther (by simp; omega) _).setOther (by simp; omega) _, (qx.out.setOther (by simp; omega) _).setOther (by simp; omega) _, (qo.out.set 2 (by simp) _).set 3 (by simp) _, Lib.hid (by rw [hiRows_zero]; exact (hG.out.setRow hgo.out _).setRow hgo.out _), by (repeat' (first | (with_reducible exact Below.refl _ _) | (with_reducible assumption) | (with_reducible refine Below.drew ?_) | (with_reducible refine below_drewN ?_ _) | (with_reducible refine Below.setCell ?_ ?_ _) | (with_reducible refine Below.alloc ?_ ?_ _) | (refine Below.trans ?_ (Below.mono (by with_reducible assumption) ?_)) | omega | (exact Below.size (by with_reducible assumption)) | (simp; done) | (simp; omega)))⟩
  case round =>
    clear lc kc fc lx kx fx qc qx lo ko fo qo hG hB
    obtain ⟨k, hK, rfl, hoc, hox, hoo, hGr, hB⟩ := hrel
    have hn' := hn.out
    by_cases hlt : k < ks.length
    · obtain ⟨q, hq⟩ : ∃ q, Hid (ks[k]? = some q) := ⟨ks[k], by simp [Hid]⟩
      obtain ⟨_, hk1, hk2, hk3⟩ := hV.out.kn q (List.mem_of_getElem? hq.out)
      obtain ⟨b0, off, rfl, hb0, c0, c1, c2⟩ := rd_kn HA.out hq.out
      obtain ⟨g, cg, hv⟩ := Gro.some hGr.out (by rw [hiRows_len]; omega)
      obtain ⟨rfl, hnn, rfl⟩ : A' = some ⟨g, 0, none⟩ ∧ n = (hiRows m ks k).length ∧ cap' = cg := by simpa using hv
      have hgl := hGr.out.lt
      have hgo' : g ≠ V3.heap.size := fun e => hgo.out (by rw [e]; rfl)
      have y1 : (k : Int) < (n : Int) := by omega
      have y2 : k < n := by omega
      have hS := Lib.hid (show OpI w w.heap.size V3.heap.size [.int .i64 L, .int .i64 sl, .int .i64 rl, .int .i64 rh, .slice (some ⟨b0, off, none⟩) n cap, .int .i64 wg] [.int .i64 L, .int .i64 sl, .int .i64 (rl + m), .int .i64 (rh + m), .slice (some ⟨g, 0, none⟩) n cap', .int .i64 wg] wr from ⟨hoc, hoo, hB⟩)
      have hx8 := Lib.hid hox
      have hocH := Lib.hid hoc
      clear hoo hox hv hnn hn' HA hgo
      obtain ⟨lc, kc, fc⟩ := hoc
      go_wp2
      refine wp_normal ?_
      refine rg_start (OpI w w.heap.size V3.heap.size [.int .i64 L, .int .i64 sl, .int .i64 rl, .int .i64 rh, .slice (some ⟨b0, off, none⟩) n cap, .int .i64 wg] [.int .i64 L, .int .i64 sl, .int .i64 (rl + m), .int .i64 (rh + m), .slice (some ⟨g, 0, none⟩) n cap', .int .i64 wg]) 14 (by kernel_rfl) rfl ?_
      replace hS := hS.out.drew
      have hx9 := hx8.out.drew
      have hG9 : Gro (World.drew wr) _ 51 3 _ _ := hGr.out
      clear lc kc fc hocH hx8 hGr hB
      generalize World.drew _ = W at hS hx9 hG9 ⊢
      refine rg_take (fuel := 4) [0, 1, 2, 3, 4, 5, 6, 7, 8, 9] (by kernel_rfl) (by intro _ _ _ _ _ h; cases h.1) rfl (by kernel_rfl) (by kernel_rfl) hS ?_
      simp only [pickL, pick1, List.cons_append, List.nil_append]
      (refine wpTake_cons (v := ?_) (Or.inl ⟨by rfl, ?_⟩) ?_; rotate_left; (intro w' hSw; have yc := hSw.c.c; have yd := hSw.d.c; have e1 := ((bcell hSw.b).1 _ (off + k * 3 + 1) hb0).trans c1; have e2 := ((bcell hSw.b).1 _ (off + k * 3 + 2) hb0).trans c2; clear hSw; go_simp; (try with_reducible rfl)); (try simp only [Act.put, List.setIfInBounds_toArray, List.set_cons_zero, List.set_cons_succ]))
      (refine wpTake_cons (v := ?_) (Or.inl ⟨by rfl, ?_⟩) ?_; rotate_left; (intro w' hSw; have yc := hSw.c.c; have yd := hSw.d.c; have e1 := ((bcell hSw.b).1 _ (off + k * 3 + 1) hb0).trans c1; have e2 := ((bcell hSw.b).1 _ (off + k * 3 + 2) hb0).trans c2; clear hSw; go_simp; (try with_reducible rfl)); (try simp only [Act.put, List.setIfInBounds_toArray, List.set_cons_zero, List.set_cons_succ]))
      (refine wpTake_cons (v := ?_) (Or.inl ⟨by rfl, ?_⟩) ?_; rotate_left; (intro w' hSw; have yc := hSw.c.c; have yd := hSw.d.c; have e1 := ((bcell hSw.b).1 _ (off + k * 3 + 1) hb0).trans c1; have e2 := ((bcell hSw.b).1 _ (off + k * 3 + 2) hb0).trans c2; clear hSw; go_simp; (try with_reducible rfl)); (try simp only [Act.put, List.setIfInBounds_toArray, List.set_cons_zero, List.set_cons_succ]))
      (refine wpTake_cons (v := ?_) (Or.inl ⟨by rfl, ?_⟩) ?_; rotate_left; (intro w' hSw; have yc := hSw.c.c; have yd := hSw.d.c; have e1 := ((bcell hSw.b).1 _ (off + k * 3 + 1) hb0).trans c1; have e2 := ((bcell hSw.b).1 _ (off + k * 3 + 2) hb0).trans c2; clear hSw; go_simp; (try with_reducible rfl)); (try simp only [Act.put, List.setIfInBounds_toArray, List.set_cons_zero, List.set_cons_succ]))
      (refine wpTake_cons (v := ?_) (Or.inl ⟨by rfl, ?_⟩) ?_; rotate_left; (intro w' hSw; have yc := hSw.c.c; have yd := hSw.d.c; have e1 := ((bcell hSw.b).1 _ (off + k * 3 + 1) hb0).trans c1; have e2 := ((bcell hSw.b).1 _ (off + k * 3 + 2) hb0).trans c2; clear hSw; go_simp; (try with_reducible rfl)); (try simp only [Act.put, List.setIfInBounds_toArray, List.set_cons_zero, List.set_cons_succ]))
      (refine wpTake_cons (v := ?_) (Or.inl ⟨by rfl, ?_⟩) ?_; rotate_left; (intro w' hSw; have yc := hSw.c.c; have yd := hSw.d.c; have e1 := ((bcell hSw.b).1 _ (off + k * 3 + 1) hb0).trans c1; have e2 := ((bcell hSw.b).1 _ (off + k * 3 + 2) hb0).trans c2; clear hSw; go_simp; (try with_reducible rfl)); (try simp only [Act.put, List.setIfInBounds_toArray, List.set_cons_zero, List.set_cons_succ]))
      (refine wpTake_cons (v := ?_) (Or.inl ⟨by rfl, ?_⟩) ?_; rotate_left; (intro w' hSw; have yc := hSw.c.c; have yd := hSw.d.c; have e1 := ((bcell hSw.b).1 _ (off + k * 3 + 1) hb0).trans c1; have e2 := ((bcell hSw.b).1 _ (off + k * 3 + 2) hb0).trans c2; clear hSw; go_simp; (try with_reducible rfl)); (try simp only [Act.put, List.setIfInBounds_toArray, List.set_cons_zero, List.set_cons_succ]))
      (refine wpTake_cons (v := ?_) (Or.inl ⟨by rfl, ?_⟩) ?_; rotate_left; (intro w' hSw; have yc := hSw.c.c; have yd := hSw.d.c; have e1 := ((bcell hSw.b).1 _ (off + k * 3 + 1) hb0).trans c1; have e2 := ((bcell hSw.b).1 _ (off + k * 3 + 2) hb0).trans c2; clear hSw; go_simp; (try with_reducible rfl)); (try simp only [Act.put, List.setIfInBounds_toArray, List.set_cons_zero, List.set_cons_succ]))
      (refine wpTake_cons (v := ?_) (Or.inl ⟨by rfl, ?_⟩) ?_; rotate_left; (intro w' hSw; have yc := hSw.c.c; have yd := hSw.d.c; have e1 := ((bcell hSw.b).1 _ (off + k * 3 + 1) hb0).trans c1; have e2 := ((bcell hSw.b).1 _ (off + k * 3 + 2) hb0).trans c2; clear hSw; go_simp; (try with_reducible rfl)); (try simp only [Act.put, List.setIfInBounds_toArray, List.set_cons_zero, List.set_cons_succ]))
      (refine wpTake_cons (v := ?_) (Or.inl ⟨by rfl, ?_⟩) ?_; rotate_left; (intro w' hSw; have yc := hSw.c.c; have yd := hSw.d.c; have e1 := ((bcell hSw.b).1 _ (off + k * 3 + 1) hb0).trans c1; have e2 := ((bcell hSw.b).1 _ (off + k * 3 + 2) hb0).trans c2; clear hSw; go_simp; (try with_reducible rfl)); (try simp only [Act.put, List.setIfInBounds_toArray, List.set_cons_zero, List.set_cons_succ]))
      refine wpTake_nil ?_
      refine rg_one (fuel := 3) 10 rfl (by kernel_rfl) (by kernel_rfl) ?_
      simp only [pick1, wpHead]
      intro K' hK
      (first | rw [if_pos (by rfl)] | rw [if_neg (by intro h; cases h)] | skip)
      go_simp
      refine (plus36 q.lo q.hi m _ (by omega) (by omega) (by omega)).mono ?_
      rintro e W' ⟨rfl, hb⟩
      go_simp
      replace hx9 := hx9.below hb hx9.lt
      replace hG9 := hG9.below hb (Nat.le_refl _)
      replace hS := hS.below hb
      refine hK.out _ _ hS ?_
      clear hK hb
      (try simp only [Act.put, List.setIfInBounds_toArray, List.set_cons_zero, List.set_cons_succ])
      refine rg_take (fuel := 1) [11, 12] (by kernel_rfl) (by intro _ _ _ _ _ h; cases h.1) rfl (by kernel_rfl) (by kernel_rfl) hS ?_
      simp only [pickL, pick1, List.cons_append, List.nil_append]
      (refine wpTake_cons (v := ?_) (Or.inl ⟨by rfl, ?_⟩) ?_; rotate_left; (intro w' hSw; have yc := hSw.c.c; have yd := hSw.d.c; have e1 := ((bcell hSw.b).1 _ (off + k * 3 + 1) hb0).trans c1; have e2 := ((bcell hSw.b).1 _ (off + k * 3 + 2) hb0).trans c2; clear hSw; go_simp; (try with_reducible rfl)); (try simp only [Act.put, List.setIfInBounds_toArray, List.set_cons_zero, List.set_cons_succ]))
      (refine wpTake_cons (v := ?_) (Or.inl ⟨by rfl, ?_⟩) ?_; rotate_left; (intro w' hSw; have yc := hSw.c.c; have yd := hSw.d.c; have e1 := ((bcell hSw.b).1 _ (off + k * 3 + 1) hb0).trans c1; have e2 := ((bcell hSw.b).1 _ (off + k * 3 + 2) hb0).trans c2; clear hSw; go_simp; (try with_reducible rfl)); (try simp only [Act.put, List.setIfInBounds_toArray, List.set_cons_zero, List.set_cons_succ]))
      refine wpTake_nil ?_
      refine rg_one (fuel := 0) 13 rfl (by kernel_rfl) (by kernel_rfl) ?_
      simp only [pick1, wpHead]
      intro K' hK
      (first | rw [if_pos (by rfl)] | rw [if_neg (by intro h; cases h)] | skip)
      have z1 := Gro.cell hG9 (hiRows_at hq.out) (c := 1) (u := .int .i64 q.lo) rfl
      have z2 := Gro.cell hG9 (hiRows_at hq.out) (c := 2) (u := .int .i64 q.hi) rfl
      have z3 := fun j => Gro.free hG9 j
      go_simp
      clear z1 z2 z3
      have hG11 := Lib.hid (gro_hi hG9 hq.out)
      clear hG9
      replace hx9 := (hx9.setOther (a := ⟨g, k * 3 + 1, none⟩) (show g ≠ _ by omega) (.int .i64 (q.lo + m))).setOther (a := ⟨g, k * 3 + 1 + 1, none⟩) (show g ≠ _ by omega) (.int .i64 (q.hi + m))
      replace hS := (hS.set (g := g) (by omega) (k * 3 + 1) (.int .i64 (q.lo + m))).set (g := g) (by omega) (k * 3 + 1 + 1) (.int .i64 (q.hi + m))
      refine hK.out _ _ hS ?_
      clear hK
      (try simp only [Act.put, List.setIfInBounds_toArray, List.set_cons_zero, List.set_cons_succ])
      refine rg_done (by kernel_rfl) ?_
      refine ⟨rfl, ?_⟩
      clear hgo'
      (try simp only [Exit.then, Exit.inBlock])
      go_wp2
      go_roundg (ks.length - (k + 1))
      case measure => omega
      case rel => exact ⟨k + 1, by omega, by go_num, hS.c, hx9, hS.d, hG11, hS.b⟩
    · obtain rfl : k = ks.length := by omega
      rw [hiRows_all] at hGr
      obtain ⟨HO, hno⟩ : Hid (Rd 3 wr A' ((ks.map (upk m)).map krow)) ∧ Hid (n = (ks.map (upk m)).length) := ⟨(by obtain ⟨_, _, e, h⟩ := hGr.out.out; cases e; exact Lib.hid h), Lib.hid (by rw [List.length_map]; exact hn')⟩
      have qc := Lib.hid hoc
      have qx := Lib.hid hox
      have qo := Lib.hid hoo
      have y0 : decide ((ks.length : Int) < (n : Int)) = false := decide_eq_false (by omega)
      have y9 : n ≤ ks.length := by omega
      have y8 : (n : Int) ≤ (ks.length : Int) := by omega
      clear hGr hgo hoc hox hoo hn' hlt hK
      obtain ⟨lc, kc, fc⟩ := qc.out
      obtain ⟨lx, kx, fx⟩ := qx.out
      obtain ⟨lo, ko, fo⟩ := qo.out
      cases hro : readyB L sl (rl + m) (rh + m) wg (ks.map (upk m))
      · have HRO := Lib.hid hro
        clear hro
        go_wp2_with fail
        refine calls_gen fun W51 hW => ?_
        have hB : Below w.heap.size w W51 := by rw [hW]; (repeat' (first | (with_reducible exact Below.refl _ _) | (with_reducible assumption) | (with_reducible refine Below.drew ?_) | (with_reducible refine below_drewN ?_ _) | (with_reducible refine Below.setCell ?_ ?_ _) | (with_reducible refine Below.alloc ?_ ?_ _) | (refine Below.trans ?_ (Below.mono (by with_reducible assumption) ?_)) | omega | (exact Below.size (by with_reducible assumption)) | (simp; done) | (simp; omega)))
        have hBV : Below wr.heap.size wr W51 := by rw [hW]; (repeat' (first | (with_reducible exact Below.refl _ _) | (with_reducible assumption) | (with_reducible refine Below.drew ?_) | (with_reducible refine below_drewN ?_ _) | (with_reducible refine Below.setCell ?_ ?_ _) | (with_reducible refine Below.alloc ?_ ?_ _) | (refine Below.trans ?_ (Below.mono (by with_reducible assumption) ?_)) | omega | (exact Below.size (by with_reducible assumption)) | (simp; done) | (simp; omega)))
        have pc : Own W51 (w.heap.size) [.int .i64 L, .int .i64 sl, .int .i64 rl, .int .i64 rh, .slice A n cap, .int .i64 wg] := by rw [hW]; exact qc.out
        have px : Own W51 (w.heap.size + 1) [.int .i64 a, .int .i64 b, .int .i64 lv] := by rw [hW]; exact qx.out
        have po : Own W51 (V3.heap.size) [.int .i64 L, .int .i64 sl, .int .i64 (rl + m), .int .i64 (rh + m), .slice A' n cap', .int .i64 wg] := by rw [hW]; exact qo.out
        clear hW lc kc fc qc lx kx fx qx lo ko fo qo
        refine (ready18v false L sl (rl + m) (rh + m) wg A' n cap' (ks.map (upk m)) _ HRO (HO.out.below hBV (Nat.le_refl _)) hno hlen).mono ?_
        rintro e V51 ⟨rfl, hb⟩
        have hB' := hB.trans (hb.mono hB.size)
        replace HO := Lib.hid ((HO.out.below hBV (Nat.le_refl _)).below hb (Nat.le_refl _))
        have qc := Lib.hid (pc.below hb pc.lt)
        have qx := Lib.hid (px.below hb px.lt)
        have qo := Lib.hid (po.below hb po.lt)
        clear hb hB hBV pc px po
        have hB := hB'
        clear hB'
        obtain ⟨lc, kc, fc⟩ := qc.out
        obtain ⟨lx, kx, fx⟩ := qx.out
        obtain ⟨lo, ko, fo⟩ := qo.out
        go_wp2_with fail
        refine calls_gen fun W52 hW => ?_
        have hB : Below w.heap.size w W52 := by rw [hW]; (repeat' (first | (with_reducible exact Below.refl _ _) | (with_reducible assumption) | (with_reducible refine Below.drew ?_) | (with_reducible refine below_drewN ?_ _) | (with_reducible refine Below.setCell ?_ ?_ _) | (with_reducible refine Below.alloc ?_ ?_ _) | (refine Below.trans ?_ (Below.mono (by with_reducible assumption) ?_)) | omega | (exact Below.size (by with_reducible assumption)) | (simp; done) | (simp; omega)))
        have hBV : Below V51.heap.size V51 W52 := by rw [hW]; (repeat' (first | (with_reducible exact Below.refl _ _) | (with_reducible assumption) | (with_reducible refine Below.drew ?_) | (with_reducible refine below_drewN ?_ _) | (with_reducible refine Below.setCell ?_ ?_ _) | (with_reducible refine Below.alloc ?_ ?_ _) | (refine Below.trans ?_ (Below.mono (by with_reducible assumption) ?_)) | omega | (exact Below.size (by with_reducible assumption)) | (simp; done) | (simp; omega)))
        have pc : Own W52 (w.heap.size) [.int .i64 L, .int .i64 sl, .int .i64 rl, .int .i64 rh, .slice A n cap, .int .i64 wg] := by rw [hW]; exact qc.out
        have px : Own W52 (w.heap.size + 1) [.int .i64 a, .int .i64 b, .int .i64 lv] := by rw [hW]; exact qx.out
        have po : Own W52 (V3.heap.size) [.int .i64 L, .int .i64 sl, .int .i64 (rl + m), .int .i64 (rh + m), .slice A' n cap', .int .i64 wg] := by rw [hW]; exact qo.out
        clear hW lc kc fc qc lx kx fx qx lo ko fo qo
        refine (works13 _).mono ?_
        rintro e V52 ⟨rfl, hb⟩
        have hB' := hB.trans (hb.mono hB.size)
        replace HO := Lib.hid ((HO.out.below hBV (Nat.le_refl _)).below hb (Nat.le_refl _))
        have qc := Lib.hid (pc.below hb pc.lt)
        have qx := Lib.hid (px.below hb px.lt)
        have qo := Lib.hid (po.below hb po.lt)
        clear hb hB hBV pc px po
        have hB := hB'
        clear hB'
        obtain ⟨lc, kc, fc⟩ := qc.out
        obtain ⟨lx, kx, fx⟩ := qx.out
        obtain ⟨lo, ko, fo⟩ := qo.out
        go_wp2
        go_ret
        exact ⟨rfl, hB⟩
      have HRO := Lib.hid hro
      have HCo := Lib.hid (ready_iff.1 hro).2
      clear hro
      by_cases hT : ∃ h, Truth (cvOf L sl rl rh wg ks) h
      rotate_left
      · have HT := Lib.hid hT
        clear hT
        go_wp2_with fail
        refine calls_gen fun W51 hW => ?_
        have hB : Below w.heap.size w W51 := by rw [hW]; (repeat' (first | (with_reducible exact Below.refl _ _) | (with_reducible assumption) | (with_reducible refine Below.drew ?_) | (with_reducible refine below_drewN ?_ _) | (with_reducible refine Below.setCell ?_ ?_ _) | (with_reducible refine Below.alloc ?_ ?_ _) | (refine Below.trans ?_ (Below.mono (by with_reducible assumption) ?_)) | omega | (exact Below.size (by with_reducible assumption)) | (simp; done) | (simp; omega)))
        have hBV : Below wr.heap.size wr W51 := by rw [hW]; (repeat' (first | (with_reducible exact Below.refl _ _) | (with_reducible assumption) | (with_reducible refine Below.drew ?_) | (with_reducible refine below_drewN ?_ _) | (with_reducible refine Below.setCell ?_ ?_ _) | (with_reducible refine Below.alloc ?_ ?_ _) | (refine Below.trans ?_ (Below.mono (by with_reducible assumption) ?_)) | omega | (exact Below.size (by with_reducible assumption)) | (simp; done) | (simp; omega)))
        have pc : Own W51 (w.heap.size) [.int .i64 L, .int .i64 sl, .int .i64 rl, .int .i64 rh, .slice A n cap, .int .i64 wg] := by rw [hW]; exact qc.out
        have px : Own W51 (w.heap.size + 1) [.int .i64 a, .int .i64 b, .int .i64 lv] := by rw [hW]; exact qx.out
        have po : Own W51 (V3.heap.size) [.int .i64 L, .int .i64 sl, .int .i64 (rl + m), .int .i64 (rh + m), .slice A' n cap', .int .i64 wg] := by rw [hW]; exact qo.out
        clear hW lc kc fc qc lx kx fx qx lo ko fo qo
        refine (ready18v true L sl (rl + m) (rh + m) wg A' n cap' (ks.map (upk m)) _ HRO (HO.out.below hBV (Nat.le_refl _)) hno hlen).mono ?_
        rintro e V51 ⟨rfl, hb⟩
        have hB' := hB.trans (hb.mono hB.size)
        replace HO := Lib.hid ((HO.out.below hBV (Nat.le_refl _)).below hb (Nat.le_refl _))
        have qc := Lib.hid (pc.below hb pc.lt)
        have qx := Lib.hid (px.below hb px.lt)
        have qo := Lib.hid (po.below hb po.lt)
        clear hb hB hBV pc px po
        have hB := hB'
        clear hB'
        obtain ⟨lc, kc, fc⟩ := qc.out
        obtain ⟨lx, kx, fx⟩ := qx.out
        obtain ⟨lo, ko, fo⟩ := qo.out
        go_wp2_with fail
        refine calls_gen fun W52 hW => ?_
        have hB : Below w.heap.size w W52 := by rw [hW]; (repeat' (first | (with_reducible exact Below.refl _ _) | (with_reducible assumption) | (with_reducible refine Below.drew ?_) | (with_reducible refine below_drewN ?_ _) | (with_reducible refine Below.setCell ?_ ?_ _) | (with_reducible refine Below.alloc ?_ ?_ _) | (refine Below.trans ?_ (Below.mono (by with_reducible assumption) ?_)) | omega | (exact Below.size (by with_reducible assumption)) | (simp; done) | (simp; omega)))
        have hBV : Below V51.heap.size V51 W52 := by rw [hW]; (repeat' (first | (with_reducible exact Below.refl _ _) | (with_reducible assumption) | (with_reducible refine Below.drew ?_) | (with_reducible refine below_drewN ?_ _) | (with_reducible refine Below.setCell ?_ ?_ _) | (with_reducible refine Below.alloc ?_ ?_ _) | (refine Below.trans ?_ (Below.mono (by with_reducible assumption) ?_)) | omega | (exact Below.size (by with_reducible assumption)) | (simp; done) | (simp; omega)))
        have pc : Own W52 (w.heap.size) [.int .i64 L, .int .i64 sl, .int .i64 rl, .int .i64 rh, .slice A n cap, .int .i64 wg] := by rw [hW]; exact qc.out
        have px : Own W52 (w.heap.size + 1) [.int .i64 a, .int .i64 b, .int .i64 lv] := by rw [hW]; exact qx.out
        have po : Own W52 (V3.heap.size) [.int .i64 L, .int .i64 sl, .int .i64 (rl + m), .int .i64 (rh + m), .slice A' n cap', .int .i64 wg] := by rw [hW]; exact qo.out
        clear hW lc kc fc qc lx kx fx qx lo ko fo qo
        refine (height31 L sl rl rh wg A n cap ks a _ (HA.out.below hB (Nat.le_refl _)) hn hlen).mono ?_
        rintro e V52 ⟨lo1, hi1, er1, rfl, hR, hb⟩
        obtain ⟨rfl, rfl, rfl⟩ := ht_F HC.out HT.out hR.out ha0 (by omega)
        clear hR
        have hB' := hB.trans (hb.mono hB.size)
        replace HO := Lib.hid ((HO.out.below hBV (Nat.le_refl _)).below hb (Nat.le_refl _))
        have qc := Lib.hid (pc.below hb pc.lt)
        have qx := Lib.hid (px.below hb px.lt)
        have qo := Lib.hid (po.below hb po.lt)
        clear hb hB hBV pc px po
        have hB := hB'
        clear hB'
        obtain ⟨lc, kc, fc⟩ := qc.out
        obtain ⟨lx, kx, fx⟩ := qx.out
        obtain ⟨lo, ko, fo⟩ := qo.out
        go_wp2_with fail
        refine calls_gen fun W53 hW => ?_
        have hB : Below w.heap.size w W53 := by rw [hW]; (repeat' (first | (with_reducible exact Below.refl _ _) | (with_reducible assumption) | (with_reducible refine Below.drew ?_) | (with_reducible refine below_drewN ?_ _) | (with_reducible refine Below.setCell ?_ ?_ _) | (with_reducible refine Below.alloc ?_ ?_ _) | (refine Below.trans ?_ (Below.mono (by with_reducible assumption) ?_)) | omega | (exact Below.size (by with_reducible assumption)) | (simp; done) | (simp; omega)))
        have hBV : Below V52.heap.size V52 W53 := by rw [hW]; (repeat' (first | (with_reducible exact Below.refl _ _) | (with_reducible assumption) | (with_reducible refine Below.drew ?_) | (with_reducible refine below_drewN ?_ _) | (with_reducible refine Below.setCell ?_ ?_ _) | (with_reducible refine Below.alloc ?_ ?_ _) | (refine Below.trans ?_ (Below.mono (by with_reducible assumption) ?_)) | omega | (exact Below.size (by with_reducible assumption)) | (simp; done) | (simp; omega)))
        have pc : Own W53 (w.heap.size) [.int .i64 L, .int .i64 sl, .int .i64 rl, .int .i64 rh, .slice A n cap, .int .i64 wg] := by rw [hW]; exact (qc.out.alloc _)
        have px : Own W53 (w.heap.size + 1) [.int .i64 a, .int .i64 b, .int .i64 lv] := by rw [hW]; exact (qx.out.alloc _)
        have po : Own W53 (V3.heap.size) [.int .i64 L, .int .i64 sl, .int .i64 (rl + m), .int .i64 (rh + m), .slice A' n cap', .int .i64 wg] := by rw [hW]; exact (qo.out.alloc _)
        have ps1 : Own W53 (V52.heap.size) [.int .i64 0, .int .i64 0] := by rw [hW]; exact Own.new' _ _ rfl rfl
        clear hW lc kc fc qc lx kx fx qx lo ko fo qo
        refine (height31 L sl (rl + m) (rh + m) wg A' n cap' (ks.map (upk m)) a _ (HO.out.below hBV (Nat.le_refl _)) hno hlen).mono ?_
        rintro e V53 ⟨lo1, hi1, er1, rfl, hR, hb⟩
        obtain ⟨rfl, rfl, rfl⟩ := ht_F HCo.out (hi_F HT.out) hR.out ha0 (by omega)
        clear hR
        have hB' := hB.trans (hb.mono hB.size)
        replace HO := Lib.hid ((HO.out.below hBV (Nat.le_refl _)).below hb (Nat.le_refl _))
        have qc := Lib.hid (pc.below hb pc.lt)
        have qx := Lib.hid (px.below hb px.lt)
        have qo := Lib.hid (po.below hb po.lt)
        have qs1 := Lib.hid (ps1.below hb ps1.lt)
        clear hb hB hBV pc px po ps1
        have hB := hB'
        clear hB'
        obtain ⟨lc, kc, fc⟩ := qc.out
        obtain ⟨lx, kx, fx⟩ := qx.out
        obtain ⟨lo, ko, fo⟩ := qo.out
        obtain ⟨ls1, ks1, fs1⟩ := qs1.out
        go_wp2_with fail
        refine calls_gen fun W54 hW => ?_
        have hB : Below w.heap.size w W54 := by rw [hW]; (repeat' (first | (with_reducible exact Below.refl _ _) | (with_reducible assumption) | (with_reducible refine Below.drew ?_) | (with_reducible refine below_drewN ?_ _) | (with_reducible refine Below.setCell ?_ ?_ _) | (with_reducible refine Below.alloc ?_ ?_ _) | (refine Below.trans ?_ (Below.mono (by with_reducible assumption) ?_)) | omega | (exact Below.size (by with_reducible assumption)) | (simp; done) | (simp; omega)))
        have hBV : Below V53.heap.size V53 W54 := by rw [hW]; (repeat' (first | (with_reducible exact Below.refl _ _) | (with_reducible assumption) | (with_reducible refine Below.drew ?_) | (with_reducible refine below_drewN ?_ _) | (with_reducible refine Below.setCell ?_ ?_ _) | (with_reducible refine Below.alloc ?_ ?_ _) | (refine Below.trans ?_ (Below.mono (by with_reducible assumption) ?_)) | omega | (exact Below.size (by with_reducible assumption)) | (simp; done) | (simp; omega)))
        have pc : Own W54 (w.heap.size) [.int .i64 L, .int .i64 sl, .int .i64 rl, .int .i64 rh, .slice A n cap, .int .i64 wg] := by rw [hW]; exact (qc.out.alloc _)
        have px : Own W54 (w.heap.size + 1) [.int .i64 a, .int .i64 b, .int .i64 lv] := by rw [hW]; exact (qx.out.alloc _)
        have po : Own W54 (V3.heap.size) [.int .i64 L, .int .i64 sl, .int .i64 (rl + m), .int .i64 (rh + m), .slice A' n cap', .int .i64 wg] := by rw [hW]; exact (qo.out.alloc _)
        have ps1 : Own W54 (V52.heap.size) [.int .i64 0, .int .i64 0] := by rw [hW]; exact (qs1.out.alloc _)
        have pt1 : Own W54 (V53.heap.size) [.int .i64 0, .int .i64 0] := by rw [hW]; exact Own.new' _ _ rfl rfl
        clear hW lc kc fc qc lx kx fx qx lo ko fo qo ls1 ks1 fs1 qs1
        refine (integral20 L sl rl rh wg A n cap ks a b _ (HA.out.below hB (Nat.le_refl _)) hn hlen).mono ?_
        rintro e V54 ⟨lo1, hi1, er1, rfl, hR, hb⟩
        obtain ⟨rfl, rfl, rfl⟩ := int_F HC.out HT.out hR.out ha0 hab hbL
        clear hR
        have hB' := hB.trans (hb.mono hB.size)
        replace HO := Lib.hid ((HO.out.below hBV (Nat.le_refl _)).below hb (Nat.le_refl _))
        have qc := Lib.hid (pc.below hb pc.lt)
        have qx := Lib.hid (px.below hb px.lt)
        have qo := Lib.hid (po.below hb po.lt)
        have qs1 := Lib.hid (ps1.below hb ps1.lt)
        have qt1 := Lib.hid (pt1.below hb pt1.lt)
        clear hb hB hBV pc px po ps1 pt1
        have hB := hB'
        clear hB'
        obtain ⟨lc, kc, fc⟩ := qc.out
        obtain ⟨lx, kx, fx⟩ := qx.out
        obtain ⟨lo, ko, fo⟩ := qo.out
        obtain ⟨ls1, ks1, fs1⟩ := qs1.out
        obtain ⟨lt1, kt1, ft1⟩ := qt1.out
        go_wp2_with fail
        refine calls_gen fun W55 hW => ?_
        have hB : Below w.heap.size w W55 := by rw [hW]; (repeat' (first | (with_reducible exact Below.refl _ _) | (with_reducible assumption) | (with_reducible refine Below.drew ?_) | (with_reducible refine below_drewN ?_ _) | (with_reducible refine Below.setCell ?_ ?_ _) | (with_reducible refine Below.alloc ?_ ?_ _) | (refine Below.trans ?_ (Below.mono (by with_reducible assumption) ?_)) | omega | (exact Below.size (by with_reducible assumption)) | (simp; done) | (simp; omega)))
        have hBV : Below V54.heap.size V54 W55 := by rw [hW]; (repeat' (first | (with_reducible exact Below.refl _ _) | (with_reducible assumption) | (with_reducible refine Below.drew ?_) | (with_reducible refine below_drewN ?_ _) | (with_reducible refine Below.setCell ?_ ?_ _) | (with_reducible refine Below.alloc ?_ ?_ _) | (refine Below.trans ?_ (Below.mono (by with_reducible assumption) ?_)) | omega | (exact Below.size (by with_reducible assumption)) | (simp; done) | (simp; omega)))
        have pc : Own W55 (w.heap.size) [.int .i64 L, .int .i64 sl, .int .i64 rl, .int .i64 rh, .slice A n cap, .int .i64 wg] := by rw [hW]; exact (qc.out.alloc _)
        have px : Own W55 (w.heap.size + 1) [.int .i64 a, .int .i64 b, .int .i64 lv] := by rw [hW]; exact (qx.out.alloc _)
        have po : Own W55 (V3.heap.size) [.int .i64 L, .int .i64 sl, .int .i64 (rl + m), .int .i64 (rh + m), .slice A' n cap', .int .i64 wg] := by rw [hW]; exact (qo.out.alloc _)
        have ps1 : Own W55 (V52.heap.size) [.int .i64 0, .int .i64 0] := by rw [hW]; exact (qs1.out.alloc _)
        have pt1 : Own W55 (V53.heap.size) [.int .i64 0, .int .i64 0] := by rw [hW]; exact (qt1.out.alloc _)
        have pu1 : Own W55 (V54.heap.size) [.int .i64 0, .int .i64 0] := by rw [hW]; exact Own.new' _ _ rfl rfl
        clear hW lc kc fc qc lx kx fx qx lo ko fo qo ls1 ks1 fs1 qs1 lt1 kt1 ft1 qt1
        refine (integral20 L sl (rl + m) (rh + m) wg A' n cap' (ks.map (upk m)) a b _ (HO.out.below hBV (Nat.le_refl _)) hno hlen).mono ?_
        rintro e V55 ⟨lo1, hi1, er1, rfl, hR, hb⟩
        obtain ⟨rfl, rfl, rfl⟩ := int_F HCo.out (hi_F HT.out) hR.out ha0 hab hbL
        clear hR
        have hB' := hB.trans (hb.mono hB.size)
        replace HO := Lib.hid ((HO.out.below hBV (Nat.le_refl _)).below hb (Nat.le_refl _))
        have qc := Lib.hid (pc.below hb pc.lt)
        have qx := Lib.hid (px.below hb px.lt)
        have qo := Lib.hid (po.below hb po.lt)
        have qs1 := Lib.hid (ps1.below hb ps1.lt)
        have qt1 := Lib.hid (pt1.below hb pt1.lt)
        have qu1 := Lib.hid (pu1.below hb pu1.lt)
        clear hb hB hBV pc px po ps1 pt1 pu1
        have hB := hB'
        clear hB'
        obtain ⟨lc, kc, fc⟩ := qc.out
        obtain ⟨lx, kx, fx⟩ := qx.out
        obtain ⟨lo, ko, fo⟩ := qo.out
        obtain ⟨ls1, ks1, fs1⟩ := qs1.out
        obtain ⟨lt1, kt1, ft1⟩ := qt1.out
        obtain ⟨lu1, ku1, fu1⟩ := qu1.out
        go_wp2_with fail
        refine calls_gen fun W56 hW => ?_
        have hB : Below w.heap.size w W56 := by rw [hW]; (repeat' (first | (with_reducible exact Below.refl _ _) | (with_reducible assumption) | (with_reducible refine Below.drew ?_) | (with_reducible refine below_drewN ?_ _) | (with_reducible refine Below.setCell ?_ ?_ _) | (with_reducible refine Below.alloc ?_ ?_ _) | (refine Below.trans ?_ (Below.mono (by with_reducible assumption) ?_)) | omega | (exact Below.size (by with_reducible assumption)) | (simp; done) | (simp; omega)))
        have hBV : Below V55.heap.size V55 W56 := by rw [hW]; (repeat' (first | (with_reducible exact Below.refl _ _) | (with_reducible assumption) | (with_reducible refine Below.drew ?_) | (with_reducible refine below_drewN ?_ _) | (with_reducible refine Below.setCell ?_ ?_ _) | (with_reducible refine Below.alloc ?_ ?_ _) | (refine Below.trans ?_ (Below.mono (by with_reducible assumption) ?_)) | omega | (exact Below.size (by with_reducible assumption)) | (simp; done) | (simp; omega)))
        have pc : Own W56 (w.heap.size) [.int .i64 L, .int .i64 sl, .int .i64 rl, .int .i64 rh, .slice A n cap, .int .i64 wg] := by rw [hW]; exact (qc.out.alloc _)
        have px : Own W56 (w.heap.size + 1) [.int .i64 a, .int .i64 b, .int .i64 lv] := by rw [hW]; exact (qx.out.alloc _)
        have po : Own W56 (V3.heap.size) [.int .i64 L, .int .i64 sl, .int .i64 (rl + m), .int .i64 (rh + m), .slice A' n cap', .int .i64 wg] := by rw [hW]; exact (qo.out.alloc _)
        have ps1 : Own W56 (V52.heap.size) [.int .i64 0, .int .i64 0] := by rw [hW]; exact (qs1.out.alloc _)
        have pt1 : Own W56 (V53.heap.size) [.int .i64 0, .int .i64 0] := by rw [hW]; exact (qt1.out.alloc _)
        have pu1 : Own W56 (V54.heap.size) [.int .i64 0, .int .i64 0] := by rw [hW]; exact (qu1.out.alloc _)
        have pv1 : Own W56 (V55.heap.size) [.int .i64 0, .int .i64 0] := by rw [hW]; exact Own.new' _ _ rfl rfl
        clear hW lc kc fc qc lx kx fx qx lo ko fo qo ls1 ks1 fs1 qs1 lt1 kt1 ft1 qt1 lu1 ku1 fu1 qu1
        refine (fewest34 L sl rl rh wg A n cap ks _ (HA.out.below hB (Nat.le_refl _)) hn hlen).mono ?_
        rintro e V56 ⟨n5, er5, rfl, hR5, hb⟩
        have hB' := hB.trans (hb.mono hB.size)
        replace HO := Lib.hid ((HO.out.below hBV (Nat.le_refl _)).below hb (Nat.le_refl _))
        have qc := Lib.hid (pc.below hb pc.lt)
        have qx := Lib.hid (px.below hb px.lt)
        have qo := Lib.hid (po.below hb po.lt)
        have qs1 := Lib.hid (ps1.below hb ps1.lt)
        have qt1 := Lib.hid (pt1.below hb pt1.lt)
        have qu1 := Lib.hid (pu1.below hb pu1.lt)
        have qv1 := Lib.hid (pv1.below hb pv1.lt)
        clear hb hB hBV pc px po ps1 pt1 pu1 pv1
        have hB := hB'
        clear hB'
        obtain ⟨lc, kc, fc⟩ := qc.out
        obtain ⟨lx, kx, fx⟩ := qx.out
        obtain ⟨lo, ko, fo⟩ := qo.out
        obtain ⟨ls1, ks1, fs1⟩ := qs1.out
        obtain ⟨lt1, kt1, ft1⟩ := qt1.out
        obtain ⟨lu1, ku1, fu1⟩ := qu1.out
        obtain ⟨lv1, kv1, fv1⟩ := qv1.out
        go_wp2_with fail
        refine calls_gen fun W57 hW => ?_
        have hB : Below w.heap.size w W57 := by rw [hW]; (repeat' (first | (with_reducible exact Below.refl _ _) | (with_reducible assumption) | (with_reducible refine Below.drew ?_) | (with_reducible refine below_drewN ?_ _) | (with_reducible refine Below.setCell ?_ ?_ _) | (with_reducible refine Below.alloc ?_ ?_ _) | (refine Below.trans ?_ (Below.mono (by with_reducible assumption) ?_)) | omega | (exact Below.size (by with_reducible assumption)) | (simp; done) | (simp; omega)))
        have hBV : Below V56.heap.size V56 W57 := by rw [hW]; (repeat' (first | (with_reducible exact Below.refl _ _) | (with_reducible assumption) | (with_reducible refine Below.drew ?_) | (with_reducible refine below_drewN ?_ _) | (with_reducible refine Below.setCell ?_ ?_ _) | (with_reducible refine Below.alloc ?_ ?_ _) | (refine Below.trans ?_ (Below.mono (by with_reducible assumption) ?_)) | omega | (exact Below.size (by with_reducible assumption)) | (simp; done) | (simp; omega)))
        have pc : Own W57 (w.heap.size) [.int .i64 L, .int .i64 sl, .int .i64 rl, .int .i64 rh, .slice A n cap, .int .i64 wg] := by rw [hW]; exact qc.out
        have px : Own W57 (w.heap.size + 1) [.int .i64 a, .int .i64 b, .int .i64 lv] := by rw [hW]; exact qx.out
        have po : Own W57 (V3.heap.size) [.int .i64 L, .int .i64 sl, .int .i64 (rl + m), .int .i64 (rh + m), .slice A' n cap', .int .i64 wg] := by rw [hW]; exact qo.out
        have ps1 : Own W57 (V52.heap.size) [.int .i64 0, .int .i64 0] := by rw [hW]; exact qs1.out
        have pt1 : Own W57 (V53.heap.size) [.int .i64 0, .int .i64 0] := by rw [hW]; exact qt1.out
        have pu1 : Own W57 (V54.heap.size) [.int .i64 0, .int .i64 0] := by rw [hW]; exact qu1.out
        have pv1 : Own W57 (V55.heap.size) [.int .i64 0, .int .i64 0] := by rw [hW]; exact qv1.out
        clear hW lc kc fc qc lx kx fx qx lo ko fo qo ls1 ks1 fs1 qs1 lt1 kt1 ft1 qt1 lu1 ku1 fu1 qu1 lv1 kv1 fv1 qv1
        refine (fewest34 L sl (rl + m) (rh + m) wg A' n cap' (ks.map (upk m)) _ (HO.out.below hBV (Nat.le_refl _)) hno hlen).mono ?_
        rintro e V57 ⟨n6, er6, rfl, hR, hb⟩
        obtain ⟨rfl, rfl, rfl⟩ := hi_few HC.out HCo.out hR5.out hR.out
        clear hR hR5
        have hB' := hB.trans (hb.mono hB.size)
        replace HO := Lib.hid ((HO.out.below hBV (Nat.le_refl _)).below hb (Nat.le_refl _))
        have qc := Lib.hid (pc.below hb pc.lt)
        have qx := Lib.hid (px.below hb px.lt)
        have qo := Lib.hid (po.below hb po.lt)
        have qs1 := Lib.hid (ps1.below hb ps1.lt)
        have qt1 := Lib.hid (pt1.below hb pt1.lt)
        have qu1 := Lib.hid (pu1.below hb pu1.lt)
        have qv1 := Lib.hid (pv1.below hb pv1.lt)
        clear hb hB hBV pc px po ps1 pt1 pu1 pv1
        have hB := hB'
        clear hB'
        obtain ⟨lc, kc, fc⟩ := qc.out
        obtain ⟨lx, kx, fx⟩ := qx.out
        obtain ⟨lo, ko, fo⟩ := qo.out
        obtain ⟨ls1, ks1, fs1⟩ := qs1.out
        obtain ⟨lt1, kt1, ft1⟩ := qt1.out
        obtain ⟨lu1, ku1, fu1⟩ := qu1.out
        obtain ⟨lv1, kv1, fv1⟩ := qv1.out
        go_wp2_with fail
        refine calls_gen fun W58 hW => ?_
        have hB : Below w.heap.size w W58 := by rw [hW]; (repeat' (first | (with_reducible exact Below.refl _ _) | (with_reducible assumption) | (with_reducible refine Below.drew ?_) | (with_reducible refine below_drewN ?_ _) | (with_reducible refine Below.setCell ?_ ?_ _) | (with_reducible refine Below.alloc ?_ ?_ _) | (refine Below.trans ?_ (Below.mono (by with_reducible assumption) ?_)) | omega | (exact Below.size (by with_reducible assumption)) | (simp; done) | (simp; omega)))
        have hBV : Below V57.heap.size V57 W58 := by rw [hW]; (repeat' (first | (with_reducible exact Below.refl _ _) | (with_reducible assumption) | (with_reducible refine Below.drew ?_) | (with_reducible refine below_drewN ?_ _) | (with_reducible refine Below.setCell ?_ ?_ _) | (with_reducible refine Below.alloc ?_ ?_ _) | (refine Below.trans ?_ (Below.mono (by with_reducible assumption) ?_)) | omega | (exact Below.size (by with_reducible assumption)) | (simp; done) | (simp; omega)))
        have pc : Own W58 (w.heap.size) [.int .i64 L, .int .i64 sl, .int .i64 rl, .int .i64 rh, .slice A n cap, .int .i64 wg] := by rw [hW]; exact qc.out
        have px : Own W58 (w.heap.size + 1) [.int .i64 a, .int .i64 b, .int .i64 lv] := by rw [hW]; exact qx.out
        have po : Own W58 (V3.heap.size) [.int .i64 L, .int .i64 sl, .int .i64 (rl + m), .int .i64 (rh + m), .slice A' n cap', .int .i64 wg] := by rw [hW]; exact qo.out
        have ps1 : Own W58 (V52.heap.size) [.int .i64 0, .int .i64 0] := by rw [hW]; exact qs1.out
        have pt1 : Own W58 (V53.heap.size) [.int .i64 0, .int .i64 0] := by rw [hW]; exact qt1.out
        have pu1 : Own W58 (V54.heap.size) [.int .i64 0, .int .i64 0] := by rw [hW]; exact qu1.out
        have pv1 : Own W58 (V55.heap.size) [.int .i64 0, .int .i64 0] := by rw [hW]; exact qv1.out
        clear hW lc kc fc qc lx kx fx qx lo ko fo qo ls1 ks1 fs1 qs1 lt1 kt1 ft1 qt1 lu1 ku1 fu1 qu1 lv1 kv1 fv1 qv1
        refine (next15 L sl rl rh wg A n cap ks _ (HA.out.below hB (Nat.le_refl _)) hn hlen).mono ?_
        rintro e V58 ⟨n7, er7, rfl, hR, hb⟩
        obtain ⟨rfl, rfl⟩ := next_F HC.out HT.out hR.out
        clear hR
        have hB' := hB.trans (hb.mono hB.size)
        replace HO := Lib.hid ((HO.out.below hBV (Nat.le_refl _)).below hb (Nat.le_refl _))
        have qc := Lib.hid (pc.below hb pc.lt)
        have qx := Lib.hid (px.below hb px.lt)
        have qo := Lib.hid (po.below hb po.lt)
        have qs1 := Lib.hid (ps1.below hb ps1.lt)
        have qt1 := Lib.hid (pt1.below hb pt1.lt)
        have qu1 := Lib.hid (pu1.below hb pu1.lt)
        have qv1 := Lib.hid (pv1.below hb pv1.lt)
        clear hb hB hBV pc px po ps1 pt1 pu1 pv1
        have hB := hB'
        clear hB'
        obtain ⟨lc, kc, fc⟩ := qc.out
        obtain ⟨lx, kx, fx⟩ := qx.out
        obtain ⟨lo, ko, fo⟩ := qo.out
        obtain ⟨ls1, ks1, fs1⟩ := qs1.out
        obtain ⟨lt1, kt1, ft1⟩ := qt1.out
        obtain ⟨lu1, ku1, fu1⟩ := qu1.out
        obtain ⟨lv1, kv1, fv1⟩ := qv1.out
        go_wp2_with fail
        refine calls_gen fun W59 hW => ?_
        have hB : Below w.heap.size w W59 := by rw [hW]; (repeat' (first | (with_reducible exact Below.refl _ _) | (with_reducible assumption) | (with_reducible refine Below.drew ?_) | (with_reducible refine below_drewN ?_ _) | (with_reducible refine Below.setCell ?_ ?_ _) | (with_reducible refine Below.alloc ?_ ?_ _) | (refine Below.trans ?_ (Below.mono (by with_reducible assumption) ?_)) | omega | (exact Below.size (by with_reducible assumption)) | (simp; done) | (simp; omega)))
        have hBV : Below V58.heap.size V58 W59 := by rw [hW]; (repeat' (first | (with_reducible exact Below.refl _ _) | (with_reducible assumption) | (with_reducible refine Below.drew ?_) | (with_reducible refine below_drewN ?_ _) | (with_reducible refine Below.setCell ?_ ?_ _) | (with_reducible refine Below.alloc ?_ ?_ _) | (refine Below.trans ?_ (Below.mono (by with_reducible assumption) ?_)) | omega | (exact Below.size (by with_reducible assumption)) | (simp; done) | (simp; omega)))
        have pc : Own W59 (w.heap.size) [.int .i64 L, .int .i64 sl, .int .i64 rl, .int .i64 rh, .slice A n cap, .int .i64 wg] := by rw [hW]; exact qc.out
        have px : Own W59 (w.heap.size + 1) [.int .i64 a, .int .i64 b, .int .i64 lv] := by rw [hW]; exact qx.out
        have po : Own W59 (V3.heap.size) [.int .i64 L, .int .i64 sl, .int .i64 (rl + m), .int .i64 (rh + m), .slice A' n cap', .int .i64 wg] := by rw [hW]; exact qo.out
        have ps1 : Own W59 (V52.heap.size) [.int .i64 0, .int .i64 0] := by rw [hW]; exact qs1.out
        have pt1 : Own W59 (V53.heap.size) [.int .i64 0, .int .i64 0] := by rw [hW]; exact qt1.out
        have pu1 : Own W59 (V54.heap.size) [.int .i64 0, .int .i64 0] := by rw [hW]; exact qu1.out
        have pv1 : Own W59 (V55.heap.size) [.int .i64 0, .int .i64 0] := by rw [hW]; exact qv1.out
        clear hW lc kc fc qc lx kx fx qx lo ko fo qo ls1 ks1 fs1 qs1 lt1 kt1 ft1 qt1 lu1 ku1 fu1 qu1 lv1 kv1 fv1 qv1
        refine (next15 L sl (rl + m) (rh + m) wg A' n cap' (ks.map (upk m)) _ (HO.out.below hBV (Nat.le_refl _)) hno hlen).mono ?_
        rintro e V59 ⟨n8, er8, rfl, hR, hb⟩
        obtain ⟨rfl, rfl⟩ := next_F HCo.out (hi_F HT.out) hR.out
        clear hR
        have hB' := hB.trans (hb.mono hB.size)
        replace HO := Lib.hid ((HO.out.below hBV (Nat.le_refl _)).below hb (Nat.le_refl _))
        have qc := Lib.hid (pc.below hb pc.lt)
        have qx := Lib.hid (px.below hb px.lt)
        have qo := Lib.hid (po.below hb po.lt)
        have qs1 := Lib.hid (ps1.below hb ps1.lt)
        have qt1 := Lib.hid (pt1.below hb pt1.lt)
        have qu1 := Lib.hid (pu1.below hb pu1.lt)
        have qv1 := Lib.hid (pv1.below hb pv1.lt)
        clear hb hB hBV pc px po ps1 pt1 pu1 pv1
        have hB := hB'
        clear hB'
        obtain ⟨lc, kc, fc⟩ := qc.out
        obtain ⟨lx, kx, fx⟩ := qx.out
        obtain ⟨lo, ko, fo⟩ := qo.out
        obtain ⟨ls1, ks1, fs1⟩ := qs1.out
        obtain ⟨lt1, kt1, ft1⟩ := qt1.out
        obtain ⟨lu1, ku1, fu1⟩ := qu1.out
        obtain ⟨lv1, kv1, fv1⟩ := qv1.out
        go_wp2_with fail
        refine calls_gen fun W60 hW => ?_
        have hB : Below w.heap.size w W60 := by rw [hW]; (repeat' (first | (with_reducible exact Below.refl _ _) | (with_reducible assumption) | (with_reducible refine Below.drew ?_) | (with_reducible refine below_drewN ?_ _) | (with_reducible refine Below.setCell ?_ ?_ _) | (with_reducible refine Below.alloc ?_ ?_ _) | (refine Below.trans ?_ (Below.mono (by with_reducible assumption) ?_)) | omega | (exact Below.size (by with_reducible assumption)) | (simp; done) | (simp; omega)))
        have hBV : Below V59.heap.size V59 W60 := by rw [hW]; (repeat' (first | (with_reducible exact Below.refl _ _) | (with_reducible assumption) | (with_reducible refine Below.drew ?_) | (with_reducible refine below_drewN ?_ _) | (with_reducible refine Below.setCell ?_ ?_ _) | (with_reducible refine Below.alloc ?_ ?_ _) | (refine Below.trans ?_ (Below.mono (by with_reducible assumption) ?_)) | omega | (exact Below.size (by with_reducible assumption)) | (simp; done) | (simp; omega)))
        have pc : Own W60 (w.heap.size) [.int .i64 L, .int .i64 sl, .int .i64 rl, .int .i64 rh, .slice A n cap, .int .i64 wg] := by rw [hW]; exact qc.out
        have px : Own W60 (w.heap.size + 1) [.int .i64 a, .int .i64 b, .int .i64 lv] := by rw [hW]; exact qx.out
        have po : Own W60 (V3.heap.size) [.int .i64 L, .int .i64 sl, .int .i64 (rl + m), .int .i64 (rh + m), .slice A' n cap', .int .i64 wg] := by rw [hW]; exact qo.out
        have ps1 : Own W60 (V52.heap.size) [.int .i64 0, .int .i64 0] := by rw [hW]; exact qs1.out
        have pt1 : Own W60 (V53.heap.size) [.int .i64 0, .int .i64 0] := by rw [hW]; exact qt1.out
        have pu1 : Own W60 (V54.heap.size) [.int .i64 0, .int .i64 0] := by rw [hW]; exact qu1.out
        have pv1 : Own W60 (V55.heap.size) [.int .i64 0, .int .i64 0] := by rw [hW]; exact qv1.out
        clear hW lc kc fc qc lx kx fx qx lo ko fo qo ls1 ks1 fs1 qs1 lt1 kt1 ft1 qt1 lu1 ku1 fu1 qu1 lv1 kv1 fv1 qv1
        refine (isKnown22w _ _).mono ?_
        rintro e V60 ⟨rfl, hb⟩
        have hB' := hB.trans (hb.mono hB.size)
        replace HO := Lib.hid ((HO.out.below hBV (Nat.le_refl _)).below hb (Nat.le_refl _))
        have qc := Lib.hid (pc.below hb pc.lt)
        have qx := Lib.hid (px.below hb px.lt)
        have qo := Lib.hid (po.below hb po.lt)
        have qs1 := Lib.hid (ps1.below hb ps1.lt)
        have qt1 := Lib.hid (pt1.below hb pt1.lt)
        have qu1 := Lib.hid (pu1.below hb pu1.lt)
        have qv1 := Lib.hid (pv1.below hb pv1.lt)
        clear hb hB hBV pc px po ps1 pt1 pu1 pv1
        have hB := hB'
        clear hB'
        obtain ⟨lc, kc, fc⟩ := qc.out
        obtain ⟨lx, kx, fx⟩ := qx.out
        obtain ⟨lo, ko, fo⟩ := qo.out
        obtain ⟨ls1, ks1, fs1⟩ := qs1.out
        obtain ⟨lt1, kt1, ft1⟩ := qt1.out
        obtain ⟨lu1, ku1, fu1⟩ := qu1.out
        obtain ⟨lv1, kv1, fv1⟩ := qv1.out
        go_wp2_with fail
        refine calls_gen fun W61 hW => ?_
        have hB : Below w.heap.size w W61 := by rw [hW]; (repeat' (first | (with_reducible exact Below.refl _ _) | (with_reducible assumption) | (with_reducible refine Below.drew ?_) | (with_reducible refine below_drewN ?_ _) | (with_reducible refine Below.setCell ?_ ?_ _) | (with_reducible refine Below.alloc ?_ ?_ _) | (refine Below.trans ?_ (Below.mono (by with_reducible assumption) ?_)) | omega | (exact Below.size (by with_reducible assumption)) | (simp; done) | (simp; omega)))
        have hBV : Below V60.heap.size V60 W61 := by rw [hW]; (repeat' (first | (with_reducible exact Below.refl _ _) | (with_reducible assumption) | (with_reducible refine Below.drew ?_) | (with_reducible refine below_drewN ?_ _) | (with_reducible refine Below.setCell ?_ ?_ _) | (with_reducible refine Below.alloc ?_ ?_ _) | (refine Below.trans ?_ (Below.mono (by with_reducible assumption) ?_)) | omega | (exact Below.size (by with_reducible assumption)) | (simp; done) | (simp; omega)))
        have pc : Own W61 (w.heap.size) [.int .i64 L, .int .i64 sl, .int .i64 rl, .int .i64 rh, .slice A n cap, .int .i64 wg] := by rw [hW]; exact qc.out
        have px : Own W61 (w.heap.size + 1) [.int .i64 a, .int .i64 b, .int .i64 lv] := by rw [hW]; exact qx.out
        have po : Own W61 (V3.heap.size) [.int .i64 L, .int .i64 sl, .int .i64 (rl + m), .int .i64 (rh + m), .slice A' n cap', .int .i64 wg] := by rw [hW]; exact qo.out
        have ps1 : Own W61 (V52.heap.size) [.int .i64 0, .int .i64 0] := by rw [hW]; exact qs1.out
        have pt1 : Own W61 (V53.heap.size) [.int .i64 0, .int .i64 0] := by rw [hW]; exact qt1.out
        have pu1 : Own W61 (V54.heap.size) [.int .i64 0, .int .i64 0] := by rw [hW]; exact qu1.out
        have pv1 : Own W61 (V55.heap.size) [.int .i64 0, .int .i64 0] := by rw [hW]; exact qv1.out
        clear hW lc kc fc qc lx kx fx qx lo ko fo qo ls1 ks1 fs1 qs1 lt1 kt1 ft1 qt1 lu1 ku1 fu1 qu1 lv1 kv1 fv1 qv1
        refine (works13 _).mono ?_
        rintro e V61 ⟨rfl, hb⟩
        have hB' := hB.trans (hb.mono hB.size)
        replace HO := Lib.hid ((HO.out.below hBV (Nat.le_refl _)).below hb (Nat.le_refl _))
        have qc := Lib.hid (pc.below hb pc.lt)
        have qx := Lib.hid (px.below hb px.lt)
        have qo := Lib.hid (po.below hb po.lt)
        have qs1 := Lib.hid (ps1.below hb ps1.lt)
        have qt1 := Lib.hid (pt1.below hb pt1.lt)
        have qu1 := Lib.hid (pu1.below hb pu1.lt)
        have qv1 := Lib.hid (pv1.below hb pv1.lt)
        clear hb hB hBV pc px po ps1 pt1 pu1 pv1
        have hB := hB'
        clear hB'
        obtain ⟨lc, kc, fc⟩ := qc.out
        obtain ⟨lx, kx, fx⟩ := qx.out
        obtain ⟨lo, ko, fo⟩ := qo.out
        obtain ⟨ls1, ks1, fs1⟩ := qs1.out
        obtain ⟨lt1, kt1, ft1⟩ := qt1.out
        obtain ⟨lu1, ku1, fu1⟩ := qu1.out
        obtain ⟨lv1, kv1, fv1⟩ := qv1.out
        go_wp2
        go_ret
        exact ⟨rfl, hB⟩
      · have HT := Lib.hid hT
        clear hT
        go_wp2_with fail
        refine calls_gen fun W51 hW => ?_
        have hB : Below w.heap.size w W51 := by rw [hW]; (repeat' (first | (with_reducible exact Below.refl _ _) | (with_reducible assumption) | (with_reducible refine Below.drew ?_) | (with_reducible refine below_drewN ?_ _) | (with_reducible refine Below.setCell ?_ ?_ _) | (with_reducible refine Below.alloc ?_ ?_ _) | (refine Below.trans ?_ (Below.mono (by with_reducible assumption) ?_)) | omega | (exact Below.size (by with_reducible assumption)) | (simp; done) | (simp; omega)))
        have hBV : Below wr.heap.size wr W51 := by rw [hW]; (repeat' (first | (with_reducible exact Below.refl _ _) | (with_reducible assumption) | (with_reducible refine Below.drew ?_) | (with_reducible refine below_drewN ?_ _) | (with_reducible refine Below.setCell ?_ ?_ _) | (with_reducible refine Below.alloc ?_ ?_ _) | (refine Below.trans ?_ (Below.mono (by with_reducible assumption) ?_)) | omega | (exact Below.size (by with_reducible assumption)) | (simp; done) | (simp; omega)))
        have pc : Own W51 (w.heap.size) [.int .i64 L, .int .i64 sl, .int .i64 rl, .int .i64 rh, .slice A n cap, .int .i64 wg] := by rw [hW]; exact qc.out
        have px : Own W51 (w.heap.size + 1) [.int .i64 a, .int .i64 b, .int .i64 lv] := by rw [hW]; exact qx.out
        have po : Own W51 (V3.heap.size) [.int .i64 L, .int .i64 sl, .int .i64 (rl + m), .int .i64 (rh + m), .slice A' n cap', .int .i64 wg] := by rw [hW]; exact qo.out
        clear hW lc kc fc qc lx kx fx qx lo ko fo qo
        refine (ready18v true L sl (rl + m) (rh + m) wg A' n cap' (ks.map (upk m)) _ HRO (HO.out.below hBV (Nat.le_refl _)) hno hlen).mono ?_
        rintro e V51 ⟨rfl, hb⟩
        have hB' := hB.trans (hb.mono hB.size)
        replace HO := Lib.hid ((HO.out.below hBV (Nat.le_refl _)).below hb (Nat.le_refl _))
        have qc := Lib.hid (pc.below hb pc.lt)
        have qx := Lib.hid (px.below hb px.lt)
        have qo := Lib.hid (po.below hb po.lt)
        clear hb hB hBV pc px po
        have hB := hB'
        clear hB'
        obtain ⟨lc, kc, fc⟩ := qc.out
        obtain ⟨lx, kx, fx⟩ := qx.out
        obtain ⟨lo, ko, fo⟩ := qo.out
        go_wp2_with fail
        refine calls_gen fun W52 hW => ?_
        have hB : Below w.heap.size w W52 := by rw [hW]; (repeat' (first | (with_reducible exact Below.refl _ _) | (with_reducible assumption) | (with_reducible refine Below.drew ?_) | (with_reducible refine below_drewN ?_ _) | (with_reducible refine Below.setCell ?_ ?_ _) | (with_reducible refine Below.alloc ?_ ?_ _) | (refine Below.trans ?_ (Below.mono (by with_reducible assumption) ?_)) | omega | (exact Below.size (by with_reducible assumption)) | (simp; done) | (simp; omega)))
        have hBV : Below V51.heap.size V51 W52 := by rw [hW]; (repeat' (first | (with_reducible exact Below.refl _ _) | (with_reducible assumption) | (with_reducible refine Below.drew ?_) | (with_reducible refine below_drewN ?_ _) | (with_reducible refine Below.setCell ?_ ?_ _) | (with_reducible refine Below.alloc ?_ ?_ _) | (refine Below.trans ?_ (Below.mono (by with_reducible assumption) ?_)) | omega | (exact Below.size (by with_reducible assumption)) | (simp; done) | (simp; omega)))
        have pc : Own W52 (w.heap.size) [.int .i64 L, .int .i64 sl, .int .i64 rl, .int .i64 rh, .slice A n cap, .int .i64 wg] := by rw [hW]; exact qc.out
        have px : Own W52 (w.heap.size + 1) [.int .i64 a, .int .i64 b, .int .i64 lv] := by rw [hW]; exact qx.out
        have po : Own W52 (V3.heap.size) [.int .i64 L, .int .i64 sl, .int .i64 (rl + m), .int .i64 (rh + m), .slice A' n cap', .int .i64 wg] := by rw [hW]; exact qo.out
        clear hW lc kc fc qc lx kx fx qx lo ko fo qo
        refine (height31 L sl rl rh wg A n cap ks a _ (HA.out.below hB (Nat.le_refl _)) hn hlen).mono ?_
        rintro e V52 ⟨lo1, hi1, er1, rfl, hR, hb⟩
        obtain ⟨rfl, hs1, hb1⟩ := ht_T HC.out HT.out hR.out ha0 (by omega)
        clear hR
        replace hs1 := Lib.hid hs1
        have g1 := Nat.lt_of_lt_of_le px.lt hb.size
        have g2 := Nat.lt_of_lt_of_le po.lt hb.size
        have hB' := hB.trans (hb.mono hB.size)
        replace HO := Lib.hid ((HO.out.below hBV (Nat.le_refl _)).below hb (Nat.le_refl _))
        have qc := Lib.hid (pc.below hb pc.lt)
        have qx := Lib.hid (px.below hb px.lt)
        have qo := Lib.hid (po.below hb po.lt)
        clear hb hB hBV pc px po
        have hB := hB'
        clear hB'
        obtain ⟨lc, kc, fc⟩ := qc.out
        obtain ⟨lx, kx, fx⟩ := qx.out
        obtain ⟨lo, ko, fo⟩ := qo.out
        go_wp2_with fail
        refine calls_gen fun W53 hW => ?_
        have hB : Below w.heap.size w W53 := by rw [hW]; (repeat' (first | (with_reducible exact Below.refl _ _) | (with_reducible assumption) | (with_reducible refine Below.drew ?_) | (with_reducible refine below_drewN ?_ _) | (with_reducible refine Below.setCell ?_ ?_ _) | (with_reducible refine Below.alloc ?_ ?_ _) | (refine Below.trans ?_ (Below.mono (by with_reducible assumption) ?_)) | omega | (exact Below.size (by with_reducible assumption)) | (simp; done) | (simp; omega)))
        have hBV : Below V52.heap.size V52 W53 := by rw [hW]; (repeat' (first | (with_reducible exact Below.refl _ _) | (with_reducible assumption) | (with_reducible refine Below.drew ?_) | (with_reducible refine below_drewN ?_ _) | (with_reducible refine Below.setCell ?_ ?_ _) | (with_reducible refine Below.alloc ?_ ?_ _) | (refine Below.trans ?_ (Below.mono (by with_reducible assumption) ?_)) | omega | (exact Below.size (by with_reducible assumption)) | (simp; done) | (simp; omega)))
        have pc : Own W53 (w.heap.size) [.int .i64 L, .int .i64 sl, .int .i64 rl, .int .i64 rh, .slice A n cap, .int .i64 wg] := by rw [hW]; exact (qc.out.alloc _)
        have px : Own W53 (w.heap.size + 1) [.int .i64 a, .int .i64 b, .int .i64 lv] := by rw [hW]; exact (qx.out.alloc _)
        have po : Own W53 (V3.heap.size) [.int .i64 L, .int .i64 sl, .int .i64 (rl + m), .int .i64 (rh + m), .slice A' n cap', .int .i64 wg] := by rw [hW]; exact (qo.out.alloc _)
        have ps1 : Own W53 (V52.heap.size) [.int .i64 lo1, .int .i64 hi1] := by rw [hW]; exact Own.new' _ _ rfl rfl
        clear hW lc kc fc qc lx kx fx qx lo ko fo qo
        refine (height31 L sl (rl + m) (rh + m) wg A' n cap' (ks.map (upk m)) a _ (HO.out.below hBV (Nat.le_refl _)) hno hlen).mono ?_
        rintro e V53 ⟨lo2, hi2, er1, rfl, hR, hb⟩
        obtain ⟨rfl, hs2, hb2⟩ := ht_T HCo.out (hi_T HT.out) hR.out ha0 (by omega)
        obtain ⟨rfl, rfl⟩ := hi_ht hs1.out hs2
        clear hR hs2 hs1
        have g3 := Nat.lt_of_lt_of_le ps1.lt hb.size
        have hB' := hB.trans (hb.mono hB.size)
        replace HO := Lib.hid ((HO.out.below hBV (Nat.le_refl _)).below hb (Nat.le_refl _))
        have qc := Lib.hid (pc.below hb pc.lt)
        have qx := Lib.hid (px.below hb px.lt)
        have qo := Lib.hid (po.below hb po.lt)
        have qs1 := Lib.hid (ps1.below hb ps1.lt)
        clear hb hB hBV pc px po ps1
        have hB := hB'
        clear hB'
        obtain ⟨lc, kc, fc⟩ := qc.out
        obtain ⟨lx, kx, fx⟩ := qx.out
        obtain ⟨lo, ko, fo⟩ := qo.out
        obtain ⟨ls1, ks1, fs1⟩ := qs1.out
        go_wp2_with fail
        refine calls_gen fun W54 hW => ?_
        have hB : Below w.heap.size w W54 := by rw [hW]; (repeat' (first | (with_reducible exact Below.refl _ _) | (with_reducible assumption) | (with_reducible refine Below.drew ?_) | (with_reducible refine below_drewN ?_ _) | (with_reducible refine Below.setCell ?_ ?_ _) | (with_reducible refine Below.alloc ?_ ?_ _) | (refine Below.trans ?_ (Below.mono (by with_reducible assumption) ?_)) | omega | (exact Below.size (by with_reducible assumption)) | (simp; done) | (simp; omega)))
        have hBV : Below V53.heap.size V53 W54 := by rw [hW]; (repeat' (first | (with_reducible exact Below.refl _ _) | (with_reducible assumption) | (with_reducible refine Below.drew ?_) | (with_reducible refine below_drewN ?_ _) | (with_reducible refine Below.setCell ?_ ?_ _) | (with_reducible refine Below.alloc ?_ ?_ _) | (refine Below.trans ?_ (Below.mono (by with_reducible assumption) ?_)) | omega | (exact Below.size (by with_reducible assumption)) | (simp; done) | (simp; omega)))
        have pc : Own W54 (w.heap.size) [.int .i64 L, .int .i64 sl, .int .i64 rl, .int .i64 rh, .slice A n cap, .int .i64 wg] := by rw [hW]; exact (qc.out.alloc _)
        have px : Own W54 (w.heap.size + 1) [.int .i64 a, .int .i64 b, .int .i64 lv] := by rw [hW]; exact (qx.out.alloc _)
        have po : Own W54 (V3.heap.size) [.int .i64 L, .int .i64 sl, .int .i64 (rl + m), .int .i64 (rh + m), .slice A' n cap', .int .i64 wg] := by rw [hW]; exact (qo.out.alloc _)
        have ps1 : Own W54 (V52.heap.size) [.int .i64 lo1, .int .i64 hi1] := by rw [hW]; exact (qs1.out.alloc _)
        have pt1 : Own W54 (V53.heap.size) [.int .i64 (lo1 + m), .int .i64 (hi1 + m)] := by rw [hW]; exact Own.new' _ _ rfl rfl
        clear hW lc kc fc qc lx kx fx qx lo ko fo qo ls1 ks1 fs1 qs1
        refine (integral20 L sl rl rh wg A n cap ks a b _ (HA.out.below hB (Nat.le_refl _)) hn hlen).mono ?_
        rintro e V54 ⟨lo3, hi3, er1, rfl, hR, hb⟩
        obtain ⟨rfl, hs3, hb3⟩ := int_T HC.out HT.out hR.out ha0 hab hbL
        clear hR
        replace hs3 := Lib.hid hs3
        have hB' := hB.trans (hb.mono hB.size)
        replace HO := Lib.hid ((HO.out.below hBV (Nat.le_refl _)).below hb (Nat.le_refl _))
        have qc := Lib.hid (pc.below hb pc.lt)
        have qx := Lib.hid (px.below hb px.lt)
        have qo := Lib.hid (po.below hb po.lt)
        have qs1 := Lib.hid (ps1.below hb ps1.lt)
        have qt1 := Lib.hid (pt1.below hb pt1.lt)
        clear hb hB hBV pc px po ps1 pt1
        have hB := hB'
        clear hB'
        obtain ⟨lc, kc, fc⟩ := qc.out
        obtain ⟨lx, kx, fx⟩ := qx.out
        obtain ⟨lo, ko, fo⟩ := qo.out
        obtain ⟨ls1, ks1, fs1⟩ := qs1.out
        obtain ⟨lt1, kt1, ft1⟩ := qt1.out
        go_wp2_with fail
        refine calls_gen fun W55 hW => ?_
        have hB : Below w.heap.size w W55 := by rw [hW]; (repeat' (first | (with_reducible exact Below.refl _ _) | (with_reducible assumption) | (with_reducible refine Below.drew ?_) | (with_reducible refine below_drewN ?_ _) | (with_reducible refine Below.setCell ?_ ?_ _) | (with_reducible refine Below.alloc ?_ ?_ _) | (refine Below.trans ?_ (Below.mono (by with_reducible assumption) ?_)) | omega | (exact Below.size (by with_reducible assumption)) | (simp; done) | (simp; omega)))
        have hBV : Below V54.heap.size V54 W55 := by rw [hW]; (repeat' (first | (with_reducible exact Below.refl _ _) | (with_reducible assumption) | (with_reducible refine Below.drew ?_) | (with_reducible refine below_drewN ?_ _) | (with_reducible refine Below.setCell ?_ ?_ _) | (with_reducible refine Below.alloc ?_ ?_ _) | (refine Below.trans ?_ (Below.mono (by with_reducible assumption) ?_)) | omega | (exact Below.size (by with_reducible assumption)) | (simp; done) | (simp; omega)))
        have pc : Own W55 (w.heap.size) [.int .i64 L, .int .i64 sl, .int .i64 rl, .int .i64 rh, .slice A n cap, .int .i64 wg] := by rw [hW]; exact (qc.out.alloc _)
        have px : Own W55 (w.heap.size + 1) [.int .i64 a, .int .i64 b, .int .i64 lv] := by rw [hW]; exact (qx.out.alloc _)
        have po : Own W55 (V3.heap.size) [.int .i64 L, .int .i64 sl, .int .i64 (rl + m), .int .i64 (rh + m), .slice A' n cap', .int .i64 wg] := by rw [hW]; exact (qo.out.alloc _)
        have ps1 : Own W55 (V52.heap.size) [.int .i64 lo1, .int .i64 hi1] := by rw [hW]; exact (qs1.out.alloc _)
        have pt1 : Own W55 (V53.heap.size) [.int .i64 (lo1 + m), .int .i64 (hi1 + m)] := by rw [hW]; exact (qt1.out.alloc _)
        have pu1 : Own W55 (V54.heap.size) [.int .i64 lo3, .int .i64 hi3] := by rw [hW]; exact Own.new' _ _ rfl rfl
        clear hW lc kc fc qc lx kx fx qx lo ko fo qo ls1 ks1 fs1 qs1 lt1 kt1 ft1 qt1
        refine (integral20 L sl (rl + m) (rh + m) wg A' n cap' (ks.map (upk m)) a b _ (HO.out.below hBV (Nat.le_refl _)) hno hlen).mono ?_
        rintro e V55 ⟨lo4, hi4, er1, rfl, hR, hb⟩
        obtain ⟨rfl, hs4, hb4⟩ := int_T HCo.out (hi_T HT.out) hR.out ha0 hab hbL
        obtain ⟨rfl, rfl⟩ := hi_in ha0 hab hbL hs3.out hs4
        clear hR hs4 hs3
        have hB' := hB.trans (hb.mono hB.size)
        replace HO := Lib.hid ((HO.out.below hBV (Nat.le_refl _)).below hb (Nat.le_refl _))
        have qc := Lib.hid (pc.below hb pc.lt)
        have qx := Lib.hid (px.below hb px.lt)
        have qo := Lib.hid (po.below hb po.lt)
        have qs1 := Lib.hid (ps1.below hb ps1.lt)
        have qt1 := Lib.hid (pt1.below hb pt1.lt)
        have qu1 := Lib.hid (pu1.below hb pu1.lt)
        clear hb hB hBV pc px po ps1 pt1 pu1
        have hB := hB'
        clear hB'
        obtain ⟨lc, kc, fc⟩ := qc.out
        obtain ⟨lx, kx, fx⟩ := qx.out
        obtain ⟨lo, ko, fo⟩ := qo.out
        obtain ⟨ls1, ks1, fs1⟩ := qs1.out
        obtain ⟨lt1, kt1, ft1⟩ := qt1.out
        obtain ⟨lu1, ku1, fu1⟩ := qu1.out
        go_wp2_with fail
        refine calls_gen fun W56 hW => ?_
        have hB : Below w.heap.size w W56 := by rw [hW]; (repeat' (first | (with_reducible exact Below.refl _ _) | (with_reducible assumption) | (with_reducible refine Below.drew ?_) | (with_reducible refine below_drewN ?_ _) | (with_reducible refine Below.setCell ?_ ?_ _) | (with_reducible refine Below.alloc ?_ ?_ _) | (refine Below.trans ?_ (Below.mono (by with_reducible assumption) ?_)) | omega | (exact Below.size (by with_reducible assumption)) | (simp; done) | (simp; omega)))
        have hBV : Below V55.heap.size V55 W56 := by rw [hW]; (repeat' (first | (with_reducible exact Below.refl _ _) | (with_reducible assumption) | (with_reducible refine Below.drew ?_) | (with_reducible refine below_drewN ?_ _) | (with_reducible refine Below.setCell ?_ ?_ _) | (with_reducible refine Below.alloc ?_ ?_ _) | (refine Below.trans ?_ (Below.mono (by with_reducible assumption) ?_)) | omega | (exact Below.size (by with_reducible assumption)) | (simp; done) | (simp; omega)))
        have pc : Own W56 (w.heap.size) [.int .i64 L, .int .i64 sl, .int .i64 rl, .int .i64 rh, .slice A n cap, .int .i64 wg] := by rw [hW]; exact (qc.out.alloc _)
        have px : Own W56 (w.heap.size + 1) [.int .i64 a, .int .i64 b, .int .i64 lv] := by rw [hW]; exact (qx.out.alloc _)
        have po : Own W56 (V3.heap.size) [.int .i64 L, .int .i64 sl, .int .i64 (rl + m), .int .i64 (rh + m), .slice A' n cap', .int .i64 wg] := by rw [hW]; exact (qo.out.alloc _)
        have ps1 : Own W56 (V52.heap.size) [.int .i64 lo1, .int .i64 hi1] := by rw [hW]; exact (qs1.out.alloc _)
        have pt1 : Own W56 (V53.heap.size) [.int .i64 (lo1 + m), .int .i64 (hi1 + m)] := by rw [hW]; exact (qt1.out.alloc _)
        have pu1 : Own W56 (V54.heap.size) [.int .i64 lo3, .int .i64 hi3] := by rw [hW]; exact (qu1.out.alloc _)
        have pv1 : Own W56 (V55.heap.size) [.int .i64 (lo3 + 2 * m * (b - a)), .int .i64 (hi3 + 2 * m * (b - a))] := by rw [hW]; exact Own.new' _ _ rfl rfl
        clear hW lc kc fc qc lx kx fx qx lo ko fo qo ls1 ks1 fs1 qs1 lt1 kt1 ft1 qt1 lu1 ku1 fu1 qu1
        refine (fewest34 L sl rl rh wg A n cap ks _ (HA.out.below hB (Nat.le_refl _)) hn hlen).mono ?_
        rintro e V56 ⟨n5, er5, rfl, hR5, hb⟩
        have hB' := hB.trans (hb.mono hB.size)
        replace HO := Lib.hid ((HO.out.below hBV (Nat.le_refl _)).below hb (Nat.le_refl _))
        have qc := Lib.hid (pc.below hb pc.lt)
        have qx := Lib.hid (px.below hb px.lt)
        have qo := Lib.hid (po.below hb po.lt)
        have qs1 := Lib.hid (ps1.below hb ps1.lt)
        have qt1 := Lib.hid (pt1.below hb pt1.lt)
        have qu1 := Lib.hid (pu1.below hb pu1.lt)
        have qv1 := Lib.hid (pv1.below hb pv1.lt)
        clear hb hB hBV pc px po ps1 pt1 pu1 pv1
        have hB := hB'
        clear hB'
        obtain ⟨lc, kc, fc⟩ := qc.out
        obtain ⟨lx, kx, fx⟩ := qx.out
        obtain ⟨lo, ko, fo⟩ := qo.out
        obtain ⟨ls1, ks1, fs1⟩ := qs1.out
        obtain ⟨lt1, kt1, ft1⟩ := qt1.out
        obtain ⟨lu1, ku1, fu1⟩ := qu1.out
        obtain ⟨lv1, kv1, fv1⟩ := qv1.out
        go_wp2_with fail
        refine calls_gen fun W57 hW => ?_
        have hB : Below w.heap.size w W57 := by rw [hW]; (repeat' (first | (with_reducible exact Below.refl _ _) | (with_reducible assumption) | (with_reducible refine Below.drew ?_) | (with_reducible refine below_drewN ?_ _) | (with_reducible refine Below.setCell ?_ ?_ _) | (with_reducible refine Below.alloc ?_ ?_ _) | (refine Below.trans ?_ (Below.mono (by with_reducible assumption) ?_)) | omega | (exact Below.size (by with_reducible assumption)) | (simp; done) | (simp; omega)))
        have hBV : Below V56.heap.size V56 W57 := by rw [hW]; (repeat' (first | (with_reducible exact Below.refl _ _) | (with_reducible assumption) | (with_reducible refine Below.drew ?_) | (with_reducible refine below_drewN ?_ _) | (with_reducible refine Below.setCell ?_ ?_ _) | (with_reducible refine Below.alloc ?_ ?_ _) | (refine Below.trans ?_ (Below.mono (by with_reducible assumption) ?_)) | omega | (exact Below.size (by with_reducible assumption)) | (simp; done) | (simp; omega)))
        have pc : Own W57 (w.heap.size) [.int .i64 L, .int .i64 sl, .int .i64 rl, .int .i64 rh, .slice A n cap, .int .i64 wg] := by rw [hW]; exact qc.out
        have px : Own W57 (w.heap.size + 1) [.int .i64 a, .int .i64 b, .int .i64 lv] := by rw [hW]; exact qx.out
        have po : Own W57 (V3.heap.size) [.int .i64 L, .int .i64 sl, .int .i64 (rl + m), .int .i64 (rh + m), .slice A' n cap', .int .i64 wg] := by rw [hW]; exact qo.out
        have ps1 : Own W57 (V52.heap.size) [.int .i64 lo1, .int .i64 hi1] := by rw [hW]; exact qs1.out
        have pt1 : Own W57 (V53.heap.size) [.int .i64 (lo1 + m), .int .i64 (hi1 + m)] := by rw [hW]; exact qt1.out
        have pu1 : Own W57 (V54.heap.size) [.int .i64 lo3, .int .i64 hi3] := by rw [hW]; exact qu1.out
        have pv1 : Own W57 (V55.heap.size) [.int .i64 (lo3 + 2 * m * (b - a)), .int .i64 (hi3 + 2 * m * (b - a))] := by rw [hW]; exact qv1.out
        clear hW lc kc fc qc lx kx fx qx lo ko fo qo ls1 ks1 fs1 qs1 lt1 kt1 ft1 qt1 lu1 ku1 fu1 qu1 lv1 kv1 fv1 qv1
        refine (fewest34 L sl (rl + m) (rh + m) wg A' n cap' (ks.map (upk m)) _ (HO.out.below hBV (Nat.le_refl _)) hno hlen).mono ?_
        rintro e V57 ⟨n6, er6, rfl, hR, hb⟩
        obtain ⟨rfl, rfl, rfl⟩ := hi_few HC.out HCo.out hR5.out hR.out
        clear hR hR5
        have hB' := hB.trans (hb.mono hB.size)
        replace HO := Lib.hid ((HO.out.below hBV (Nat.le_refl _)).below hb (Nat.le_refl _))
        have qc := Lib.hid (pc.below hb pc.lt)
        have qx := Lib.hid (px.below hb px.lt)
        have qo := Lib.hid (po.below hb po.lt)
        have qs1 := Lib.hid (ps1.below hb ps1.lt)
        have qt1 := Lib.hid (pt1.below hb pt1.lt)
        have qu1 := Lib.hid (pu1.below hb pu1.lt)
        have qv1 := Lib.hid (pv1.below hb pv1.lt)
        clear hb hB hBV pc px po ps1 pt1 pu1 pv1
        have hB := hB'
        clear hB'
        obtain ⟨lc, kc, fc⟩ := qc.out
        obtain ⟨lx, kx, fx⟩ := qx.out
        obtain ⟨lo, ko, fo⟩ := qo.out
        obtain ⟨ls1, ks1, fs1⟩ := qs1.out
        obtain ⟨lt1, kt1, ft1⟩ := qt1.out
        obtain ⟨lu1, ku1, fu1⟩ := qu1.out
        obtain ⟨lv1, kv1, fv1⟩ := qv1.out
        go_wp2_with fail
        refine calls_gen fun W58 hW => ?_
        have hB : Below w.heap.size w W58 := by rw [hW]; (repeat' (first | (with_reducible exact Below.refl _ _) | (with_reducible assumption) | (with_reducible refine Below.drew ?_) | (with_reducible refine below_drewN ?_ _) | (with_reducible refine Below.setCell ?_ ?_ _) | (with_reducible refine Below.alloc ?_ ?_ _) | (refine Below.trans ?_ (Below.mono (by with_reducible assumption) ?_)) | omega | (exact Below.size (by with_reducible assumption)) | (simp; done) | (simp; omega)))
        have hBV : Below V57.heap.size V57 W58 := by rw [hW]; (repeat' (first | (with_reducible exact Below.refl _ _) | (with_reducible assumption) | (with_reducible refine Below.drew ?_) | (with_reducible refine below_drewN ?_ _) | (with_reducible refine Below.setCell ?_ ?_ _) | (with_reducible refine Below.alloc ?_ ?_ _) | (refine Below.trans ?_ (Below.mono (by with_reducible assumption) ?_)) | omega | (exact Below.size (by with_reducible assumption)) | (simp; done) | (simp; omega)))
        have pc : Own W58 (w.heap.size) [.int .i64 L, .int .i64 sl, .int .i64 rl, .int .i64 rh, .slice A n cap, .int .i64 wg] := by rw [hW]; exact qc.out
        have px : Own W58 (w.heap.size + 1) [.int .i64 a, .int .i64 b, .int .i64 lv] := by rw [hW]; exact qx.out
        have po : Own W58 (V3.heap.size) [.int .i64 L, .int .i64 sl, .int .i64 (rl + m), .int .i64 (rh + m), .slice A' n cap', .int .i64 wg] := by rw [hW]; exact qo.out
        have ps1 : Own W58 (V52.heap.size) [.int .i64 lo1, .int .i64 hi1] := by rw [hW]; exact qs1.out
        have pt1 : Own W58 (V53.heap.size) [.int .i64 (lo1 + m), .int .i64 (hi1 + m)] := by rw [hW]; exact qt1.out
        have pu1 : Own W58 (V54.heap.size) [.int .i64 lo3, .int .i64 hi3] := by rw [hW]; exact qu1.out
        have pv1 : Own W58 (V55.heap.size) [.int .i64 (lo3 + 2 * m * (b - a)), .int .i64 (hi3 + 2 * m * (b - a))] := by rw [hW]; exact qv1.out
        clear hW lc kc fc qc lx kx fx qx lo ko fo qo ls1 ks1 fs1 qs1 lt1 kt1 ft1 qt1 lu1 ku1 fu1 qu1 lv1 kv1 fv1 qv1
        refine (next15 L sl rl rh wg A n cap ks _ (HA.out.below hB (Nat.le_refl _)) hn hlen).mono ?_
        rintro e V58 ⟨n7, er7, rfl, hR7, hb⟩
        have hB' := hB.trans (hb.mono hB.size)
        replace HO := Lib.hid ((HO.out.below hBV (Nat.le_refl _)).below hb (Nat.le_refl _))
        have qc := Lib.hid (pc.below hb pc.lt)
        have qx := Lib.hid (px.below hb px.lt)
        have qo := Lib.hid (po.below hb po.lt)
        have qs1 := Lib.hid (ps1.below hb ps1.lt)
        have qt1 := Lib.hid (pt1.below hb pt1.lt)
        have qu1 := Lib.hid (pu1.below hb pu1.lt)
        have qv1 := Lib.hid (pv1.below hb pv1.lt)
        clear hb hB hBV pc px po ps1 pt1 pu1 pv1
        have hB := hB'
        clear hB'
        obtain ⟨lc, kc, fc⟩ := qc.out
        obtain ⟨lx, kx, fx⟩ := qx.out
        obtain ⟨lo, ko, fo⟩ := qo.out
        obtain ⟨ls1, ks1, fs1⟩ := qs1.out
        obtain ⟨lt1, kt1, ft1⟩ := qt1.out
        obtain ⟨lu1, ku1, fu1⟩ := qu1.out
        obtain ⟨lv1, kv1, fv1⟩ := qv1.out
        go_wp2_with fail
        refine calls_gen fun W59 hW => ?_
        have hB : Below w.heap.size w W59 := by rw [hW]; (repeat' (first | (with_reducible exact Below.refl _ _) | (with_reducible assumption) | (with_reducible refine Below.drew ?_) | (with_reducible refine below_drewN ?_ _) | (with_reducible refine Below.setCell ?_ ?_ _) | (with_reducible refine Below.alloc ?_ ?_ _) | (refine Below.trans ?_ (Below.mono (by with_reducible assumption) ?_)) | omega | (exact Below.size (by with_reducible assumption)) | (simp; done) | (simp; omega)))
        have hBV : Below V58.heap.size V58 W59 := by rw [hW]; (repeat' (first | (with_reducible exact Below.refl _ _) | (with_reducible assumption) | (with_reducible refine Below.drew ?_) | (with_reducible refine below_drewN ?_ _) | (with_reducible refine Below.setCell ?_ ?_ _) | (with_reducible refine Below.alloc ?_ ?_ _) | (refine Below.trans ?_ (Below.mono (by with_reducible assumption) ?_)) | omega | (exact Below.size (by with_reducible assumption)) | (simp; done) | (simp; omega)))
        have pc : Own W59 (w.heap.size) [.int .i64 L, .int .i64 sl, .int .i64 rl, .int .i64 rh, .slice A n cap, .int .i64 wg] := by rw [hW]; exact qc.out
        have px : Own W59 (w.heap.size + 1) [.int .i64 a, .int .i64 b, .int .i64 lv] := by rw [hW]; exact qx.out
        have po : Own W59 (V3.heap.size) [.int .i64 L, .int .i64 sl, .int .i64 (rl + m), .int .i64 (rh + m), .slice A' n cap', .int .i64 wg] := by rw [hW]; exact qo.out
        have ps1 : Own W59 (V52.heap.size) [.int .i64 lo1, .int .i64 hi1] := by rw [hW]; exact qs1.out
        have pt1 : Own W59 (V53.heap.size) [.int .i64 (lo1 + m), .int .i64 (hi1 + m)] := by rw [hW]; exact qt1.out
        have pu1 : Own W59 (V54.heap.size) [.int .i64 lo3, .int .i64 hi3] := by rw [hW]; exact qu1.out
        have pv1 : Own W59 (V55.heap.size) [.int .i64 (lo3 + 2 * m * (b - a)), .int .i64 (hi3 + 2 * m * (b - a))] := by rw [hW]; exact qv1.out
        clear hW lc kc fc qc lx kx fx qx lo ko fo qo ls1 ks1 fs1 qs1 lt1 kt1 ft1 qt1 lu1 ku1 fu1 qu1 lv1 kv1 fv1 qv1
        refine (next15 L sl (rl + m) (rh + m) wg A' n cap' (ks.map (upk m)) _ (HO.out.below hBV (Nat.le_refl _)) hno hlen).mono ?_
        rintro e V59 ⟨n8, er8, rfl, hR, hb⟩
        obtain ⟨rfl, rfl⟩ := hi_next HC.out HCo.out HT.out hR7.out hR
        clear hR hR7
        have hB' := hB.trans (hb.mono hB.size)
        replace HO := Lib.hid ((HO.out.below hBV (Nat.le_refl _)).below hb (Nat.le_refl _))
        have qc := Lib.hid (pc.below hb pc.lt)
        have qx := Lib.hid (px.below hb px.lt)
        have qo := Lib.hid (po.below hb po.lt)
        have qs1 := Lib.hid (ps1.below hb ps1.lt)
        have qt1 := Lib.hid (pt1.below hb pt1.lt)
        have qu1 := Lib.hid (pu1.below hb pu1.lt)
        have qv1 := Lib.hid (pv1.below hb pv1.lt)
        clear hb hB hBV pc px po ps1 pt1 pu1 pv1
        have hB := hB'
        clear hB'
        obtain ⟨lc, kc, fc⟩ := qc.out
        obtain ⟨lx, kx, fx⟩ := qx.out
        obtain ⟨lo, ko, fo⟩ := qo.out
        obtain ⟨ls1, ks1, fs1⟩ := qs1.out
        obtain ⟨lt1, kt1, ft1⟩ := qt1.out
        obtain ⟨lu1, ku1, fu1⟩ := qu1.out
        obtain ⟨lv1, kv1, fv1⟩ := qv1.out
        go_wp2_with fail
        refine calls_gen fun W60 hW => ?_
        have hB : Below w.heap.size w W60 := by rw [hW]; (repeat' (first | (with_reducible exact Below.refl _ _) | (with_reducible assumption) | (with_reducible refine Below.drew ?_) | (with_reducible refine below_drewN ?_ _) | (with_reducible refine Below.setCell ?_ ?_ _) | (with_reducible refine Below.alloc ?_ ?_ _) | (refine Below.trans ?_ (Below.mono (by with_reducible assumption) ?_)) | omega | (exact Below.size (by with_reducible assumption)) | (simp; done) | (simp; omega)))
        have hBV : Below V59.heap.size V59 W60 := by rw [hW]; (repeat' (first | (with_reducible exact Below.refl _ _) | (with_reducible assumption) | (with_reducible refine Below.drew ?_) | (with_reducible refine below_drewN ?_ _) | (with_reducible refine Below.setCell ?_ ?_ _) | (with_reducible refine Below.alloc ?_ ?_ _) | (refine Below.trans ?_ (Below.mono (by with_reducible assumption) ?_)) | omega | (exact Below.size (by with_reducible assumption)) | (simp; done) | (simp; omega)))
        have pc : Own W60 (w.heap.size) [.int .i64 L, .int .i64 sl, .int .i64 rl, .int .i64 rh, .slice A n cap, .int .i64 wg] := by rw [hW]; exact qc.out
        have px : Own W60 (w.heap.size + 1) [.int .i64 a, .int .i64 b, .int .i64 lv] := by rw [hW]; exact qx.out
        have po : Own W60 (V3.heap.size) [.int .i64 L, .int .i64 sl, .int .i64 (rl + m), .int .i64 (rh + m), .slice A' n cap', .int .i64 wg] := by rw [hW]; exact qo.out
        have ps1 : Own W60 (V52.heap.size) [.int .i64 lo1, .int .i64 hi1] := by rw [hW]; exact qs1.out
        have pt1 : Own W60 (V53.heap.size) [.int .i64 (lo1 + m), .int .i64 (hi1 + m)] := by rw [hW]; exact qt1.out
        have pu1 : Own W60 (V54.heap.size) [.int .i64 lo3, .int .i64 hi3] := by rw [hW]; exact qu1.out
        have pv1 : Own W60 (V55.heap.size) [.int .i64 (lo3 + 2 * m * (b - a)), .int .i64 (hi3 + 2 * m * (b - a))] := by rw [hW]; exact qv1.out
        clear hW lc kc fc qc lx kx fx qx lo ko fo qo ls1 ks1 fs1 qs1 lt1 kt1 ft1 qt1 lu1 ku1 fu1 qu1 lv1 kv1 fv1 qv1
        refine (isKnown22w _ _).mono ?_
        rintro e V60 ⟨rfl, hb⟩
        have hB' := hB.trans (hb.mono hB.size)
        replace HO := Lib.hid ((HO.out.below hBV (Nat.le_refl _)).below hb (Nat.le_refl _))
        have qc := Lib.hid (pc.below hb pc.lt)
        have qx := Lib.hid (px.below hb px.lt)
        have qo := Lib.hid (po.below hb po.lt)
        have qs1 := Lib.hid (ps1.below hb ps1.lt)
        have qt1 := Lib.hid (pt1.below hb pt1.lt)
        have qu1 := Lib.hid (pu1.below hb pu1.lt)
        have qv1 := Lib.hid (pv1.below hb pv1.lt)
        clear hb hB hBV pc px po ps1 pt1 pu1 pv1
        have hB := hB'
        clear hB'
        obtain ⟨lc, kc, fc⟩ := qc.out
        obtain ⟨lx, kx, fx⟩ := qx.out
        obtain ⟨lo, ko, fo⟩ := qo.out
        obtain ⟨ls1, ks1, fs1⟩ := qs1.out
        obtain ⟨lt1, kt1, ft1⟩ := qt1.out
        obtain ⟨lu1, ku1, fu1⟩ := qu1.out
        obtain ⟨lv1, kv1, fv1⟩ := qv1.out
        have hmul := mul_bd (m := m) (d := b - a) (by omega) (by omega)
        have hwr := IntWalk.i64_in (2 * m * (b - a)) (by omega)
        have hx0 := Aft.cell (W := V60) qx.out
        have hx1 := Aft.cell (W := V60) qs1.out
        have hx2 := Aft.cell (W := V60) qt1.out
        have hx3 := Aft.cell (W := V60) qu1.out
        have hx4 := Aft.cell (W := V60) qv1.out
        go_wp2
        refine wp_region_aft (by kernel_rfl) (by kernel_rfl) ?_; (repeat (go_big_quiet_step ((go_at_call 36; refine aft_of (plus36 _ _ _ _ ?_ ?_ ?_) <;> omega)))); refine wpQuiet_nil ?_; rintro w23 ⟨⟨_, hb23⟩, rfl⟩
        have hB23 := hB.trans (hb23.mono hB.size)
        have rc := Lib.hid (qc.out.below hb23 lc)
        have rx := Lib.hid (qx.out.below hb23 lx)
        have ro := Lib.hid (qo.out.below hb23 lo)
        have rs1 := Lib.hid (qs1.out.below hb23 ls1)
        have rt1 := Lib.hid (qt1.out.below hb23 lt1)
        replace HO := Lib.hid (HO.out.below hb23 (Nat.le_refl _))
        clear hx0 hx1 hx2 hx3 hx4 hwr hmul lc kc fc qc lx kx fx qx lo ko fo qo ls1 ks1 fs1 qs1 lt1 kt1 ft1 qt1 lu1 ku1 fu1 qu1 lv1 kv1 fv1 qv1 hB hb23 hb1 hb2 hb3 hb4
        have hB := hB23
        have qc := rc
        have qx := rx
        have qo := ro
        have qs1 := rs1
        have qt1 := rt1
        obtain ⟨lc, kc, fc⟩ := qc.out
        obtain ⟨lx, kx, fx⟩ := qx.out
        obtain ⟨lo, ko, fo⟩ := qo.out
        obtain ⟨ls1, ks1, fs1⟩ := qs1.out
        obtain ⟨lt1, kt1, ft1⟩ := qt1.out
        clear hB23 rc rx ro rs1 rt1
        by_cases haL : a = L
        · have haE : (a == L) = true := by simpa using haL
          clear haL
          go_wp2_with fail
          refine calls_gen fun W81 hW => ?_
          have hB : Below w.heap.size w W81 := by rw [hW]; (repeat' (first | (with_reducible exact Below.refl _ _) | (with_reducible assumption) | (with_reducible refine Below.drew ?_) | (with_reducible refine below_drewN ?_ _) | (with_reducible refine Below.setCell ?_ ?_ _) | (with_reducible refine Below.alloc ?_ ?_ _) | (refine Below.trans ?_ (Below.mono (by with_reducible assumption) ?_)) | omega | (exact Below.size (by with_reducible assumption)) | (simp; done) | (simp; omega)))
          have hBV : Below w23.heap.size w23 W81 := by rw [hW]; (repeat' (first | (with_reducible exact Below.refl _ _) | (with_reducible assumption) | (with_reducible refine Below.drew ?_) | (with_reducible refine below_drewN ?_ _) | (with_reducible refine Below.setCell ?_ ?_ _) | (with_reducible refine Below.alloc ?_ ?_ _) | (refine Below.trans ?_ (Below.mono (by with_reducible assumption) ?_)) | omega | (exact Below.size (by with_reducible assumption)) | (simp; done) | (simp; omega)))
          have pc : Own W81 (w.heap.size) [.int .i64 L, .int .i64 sl, .int .i64 rl, .int .i64 rh, .slice A n cap, .int .i64 wg] := by rw [hW]; exact qc.out
          have px : Own W81 (w.heap.size + 1) [.int .i64 a, .int .i64 b, .int .i64 lv] := by rw [hW]; exact qx.out
          have po : Own W81 (V3.heap.size) [.int .i64 L, .int .i64 sl, .int .i64 (rl + m), .int .i64 (rh + m), .slice A' n cap', .int .i64 wg] := by rw [hW]; exact qo.out
          have ps1 : Own W81 (V52.heap.size) [.int .i64 lo1, .int .i64 hi1] := by rw [hW]; exact qs1.out
          have pt1 : Own W81 (V53.heap.size) [.int .i64 (lo1 + m), .int .i64 (hi1 + m)] := by rw [hW]; exact qt1.out
          clear hW lc kc fc qc lx kx fx qx lo ko fo qo ls1 ks1 fs1 qs1 lt1 kt1 ft1 qt1
          refine (works13 _).mono ?_
          rintro e V81 ⟨rfl, hb⟩
          have hB' := hB.trans (hb.mono hB.size)
          replace HO := Lib.hid ((HO.out.below hBV (Nat.le_refl _)).below hb (Nat.le_refl _))
          have qc := Lib.hid (pc.below hb pc.lt)
          have qx := Lib.hid (px.below hb px.lt)
          have qo := Lib.hid (po.below hb po.lt)
          have qs1 := Lib.hid (ps1.below hb ps1.lt)
          have qt1 := Lib.hid (pt1.below hb pt1.lt)
          clear hb hB hBV pc px po ps1 pt1
          have hB := hB'
          clear hB'
          obtain ⟨lc, kc, fc⟩ := qc.out
          obtain ⟨lx, kx, fx⟩ := qx.out
          obtain ⟨lo, ko, fo⟩ := qo.out
          obtain ⟨ls1, ks1, fs1⟩ := qs1.out
          obtain ⟨lt1, kt1, ft1⟩ := qt1.out
          go_wp2
          go_ret
          exact ⟨rfl, hB⟩
        · have haE : (a == L) = false := by simpa using haL
          have haM : a < L := by omega
          clear haL
          have hLL : Hid (1 ≤ L ∧ L ≤ 12) := ⟨hl1, hl2⟩
          have hSS := Lib.hid (show 0 ≤ sl ∧ sl ≤ 20 from ⟨hV.out.s1, hV.out.s2⟩)
          go_wp2_with fail
          refine calls_gen fun W81 hW => ?_
          have hB : Below w.heap.size w W81 := by rw [hW]; (repeat' (first | (with_reducible exact Below.refl _ _) | (with_reducible assumption) | (with_reducible refine Below.drew ?_) | (with_reducible refine below_drewN ?_ _) | (with_reducible refine Below.setCell ?_ ?_ _) | (with_reducible refine Below.alloc ?_ ?_ _) | (refine Below.trans ?_ (Below.mono (by with_reducible assumption) ?_)) | omega | (exact Below.size (by with_reducible assumption)) | (simp; done) | (simp; omega)))
          have hBV : Below w23.heap.size w23 W81 := by rw [hW]; (repeat' (first | (with_reducible exact Below.refl _ _) | (with_reducible assumption) | (with_reducible refine Below.drew ?_) | (with_reducible refine below_drewN ?_ _) | (with_reducible refine Below.setCell ?_ ?_ _) | (with_reducible refine Below.alloc ?_ ?_ _) | (refine Below.trans ?_ (Below.mono (by with_reducible assumption) ?_)) | omega | (exact Below.size (by with_reducible assumption)) | (simp; done) | (simp; omega)))
          have pc : Own W81 (w.heap.size) [.int .i64 L, .int .i64 sl, .int .i64 rl, .int .i64 rh, .slice A n cap, .int .i64 wg] := by rw [hW]; exact qc.out
          have px : Own W81 (w.heap.size + 1) [.int .i64 a, .int .i64 b, .int .i64 lv] := by rw [hW]; exact qx.out
          have po : Own W81 (V3.heap.size) [.int .i64 L, .int .i64 sl, .int .i64 (rl + m), .int .i64 (rh + m), .slice A' n cap', .int .i64 wg] := by rw [hW]; exact qo.out
          have ps1 : Own W81 (V52.heap.size) [.int .i64 lo1, .int .i64 hi1] := by rw [hW]; exact qs1.out
          have pt1 : Own W81 (V53.heap.size) [.int .i64 (lo1 + m), .int .i64 (hi1 + m)] := by rw [hW]; exact qt1.out
          clear hW lc kc fc qc lx kx fx qx lo ko fo qo ls1 ks1 fs1 qs1 lt1 kt1 ft1 qt1
          refine (lean35 L sl rl rh wg A n cap ks a _ (HA.out.below hB (Nat.le_refl _)) hn hlen hLL.out hSS.out).mono ?_
          rintro e V81 ⟨lo5, hi5, er5, rfl, hR, hb⟩
          obtain ⟨rfl, hs5⟩ := lean_T HC.out HT.out hR.out ha0 haM
          clear hR
          replace hs5 := Lib.hid hs5
          have hB' := hB.trans (hb.mono hB.size)
          replace HO := Lib.hid ((HO.out.below hBV (Nat.le_refl _)).below hb (Nat.le_refl _))
          have qc := Lib.hid (pc.below hb pc.lt)
          have qx := Lib.hid (px.below hb px.lt)
          have qo := Lib.hid (po.below hb po.lt)
          have qs1 := Lib.hid (ps1.below hb ps1.lt)
          have qt1 := Lib.hid (pt1.below hb pt1.lt)
          clear hb hB hBV pc px po ps1 pt1
          have hB := hB'
          clear hB'
          obtain ⟨lc, kc, fc⟩ := qc.out
          obtain ⟨lx, kx, fx⟩ := qx.out
          obtain ⟨lo, ko, fo⟩ := qo.out
          obtain ⟨ls1, ks1, fs1⟩ := qs1.out
          obtain ⟨lt1, kt1, ft1⟩ := qt1.out
          go_wp2_with fail
          refine calls_gen fun W9 hW => ?_
          have hB2 : Below w.heap.size w W9 := by rw [hW]; exact (hB.setCell (by show w.heap.size ≤ V52.heap.size; omega) _).setCell (by show w.heap.size ≤ V52.heap.size; omega) _
          have HO2 := Lib.hid (show Rd 3 W9 A' ((ks.map (upk m)).map krow) by rw [hW]; exact (HO.out.setCell (fun b off e => by have := hAl.out b off e; show V52.heap.size ≠ b; omega) _).setCell (fun b off e => by have := hAl.out b off e; show V52.heap.size ≠ b; omega) _)
          have ps : Own W9 V52.heap.size [.int .i64 lo5, .int .i64 hi5] := by rw [hW]; exact own_set2 qs1.out rfl _ _
          have pt : Own W9 V53.heap.size [.int .i64 (lo1 + m), .int .i64 (hi1 + m)] := by rw [hW]; exact (qt1.out.setOther (by simp; omega) _).setOther (by simp; omega) _
          clear hW lc kc fc qc lx kx fx qx lo ko fo qo ls1 ks1 fs1 qs1 lt1 kt1 ft1 qt1 hB HO
          refine (lean35 L sl (rl + m) (rh + m) wg A' n cap' (ks.map (upk m)) a _ HO2.out hno hlen hLL.out hSS.out).mono ?_
          rintro e V9 ⟨lo6, hi6, er6, rfl, hR, hb⟩
          obtain ⟨rfl, hs6⟩ := lean_T HCo.out (hi_T HT.out) hR.out ha0 haM
          obtain ⟨rfl, rfl⟩ := hi_ln hs5.out hs6
          clear hs6 hs5 hR
          have hB3 := hB2.trans (hb.mono hB2.size)
          obtain ⟨ls, ks9, fs9⟩ := ps.below hb ps.lt
          have qt := Lib.hid (pt.below hb pt.lt)
          obtain ⟨lt, kt9, ft9⟩ := qt.out
          clear ps pt hb hB2
          go_wp2_with fail
          refine calls_gen fun W10 hW => ?_
          have hB4 : Below w.heap.size w W10 := by rw [hW]; exact (hB3.setCell (by show w.heap.size ≤ V53.heap.size; omega) _).setCell (by show w.heap.size ≤ V53.heap.size; omega) _
          clear hW
          refine (works13 _).mono ?_
          rintro e V10 ⟨rfl, hb⟩
          go_wp2
          go_ret
          exact ⟨rfl, hB4.trans (hb.mono hB4.size)⟩
end Go.Proofs.Ytphcpphmoeiioaa
